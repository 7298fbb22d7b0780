/-
  Part 46 of what the proof stands on: lemmas and contracts, each with its conditions ahead of the colon.
-/
import Derived.Test.YtbknhgapjjaelaaGreatDoorPj01
import Derived.Test.YtbknhgapjjaelaaGreatDoorPj06
import Derived.Test.YtbknhgapjjaelaaGreatDoorPj07
import Derived.Test.YtbknhgapjjaelaaGreatDoorPj13
import Derived.Test.YtbknhgapjjaelaaGreatDoorPj43
import Derived.Test.YtbknhgapjjaelaaGreatDoorPj45
set_option maxRecDepth 10000
set_option maxHeartbeats 16000000
namespace Go.Proofs.YtbknhgapjjaelaaGreatDoor
set_option linter.unusedVariables false
set_option linter.unusedSimpArgs false
open Go.RowKit
theorem nW {xs:List Int} (h:∀ x∈xs,-1000≤x∧x≤1000) (hl:xs.length≤16):bD xs=true:=by
 simp only [bD,gv,Bool.and_eq_true,decide_eq_true_eq,List.all_eq_true];exact ⟨fun x hx=>cx.2 (by have:=h x hx;omega),by omega⟩
theorem N4 {p q:Int} {x y:List Int} (hp:0≤p∧p≤16) (hq:0≤q∧q≤16) (hx:∀ v∈x,-1000≤v∧v≤1000) (hl:x.length≤16) (hy:∀ v∈y,-1000≤v∧v≤1000) (hl2:y.length≤16) :
 (∀ l∈[[p,q],x,y],bD l=true)∧(bt [[p,q],x,y]).length≤1200:=by
 have h1:bD [p,q]=true:=nW (fun v hv=>by simp at hv;omega) (by simp)
 have h2:=nW hx hl;have h3:=nW hy hl2;refine ⟨fun l hm=>?_,IE (by omega) (by omega) h2 hl h3 hl2⟩
 simp at hm
 rcases hm with rfl | rfl | rfl
 · exact h1
 · exact h2
 · exact h3
theorem Oh {p q:Int} {x:List Int} (hp:0≤p∧p≤16) (hq:0≤q∧q≤16) (hx:∀ v∈x,-1000≤v∧v≤1000) (hl:x.length≤16) :
 (∀ l∈[[p,q],x],bD l=true)∧(bt [[p,q],x]).length≤800:=by
 have h1:bD [p,q]=true:=nW (fun v hv=>by simp at hv;omega) (by simp)
 have h2:=nW hx hl;refine ⟨fun l hm=>?_,IC (by omega) (by omega) h2 hl⟩
 simp at hm
 rcases hm with rfl | rfl
 · exact h1
 · exact h2
theorem CE (w:World) (B0 b:Nat) (a:Option Addr) (xs:List Int) (c p:Nat) (h:DS w B0 b a xs c p) (hp:p≤400000) :
 Calls Tryz.prog 29 #[.pointer (some ⟨b,0,none⟩)] w (NN w B0 b a xs c (p+70)):=by
 have hbw:=h.lt;have L0:=Oi (dI w B0 b a xs c p 20 h (by omega) (by omega))
 clear h
 go_enter Tryz.func29,Tryz.ntmps29;go_wp2_with fail;refine L0.out.mono ?_;rintro e w1 ⟨n,p1,rfl,⟨n0,n1⟩,hp1,D1,T1⟩;have HNL:Hid ((Lib.itoa n).length≤21):=iF (by omega) (by omega)
 have LD:=Oi (nl w1 n (by omega) (by omega))
 have D1:=Oi D1;have T1:=Oi T1;have HP1:=Oi hp1;clear L0 hp1;go_wp2_with fail;refine LD.out.mono ?_;rintro e w2 ⟨rfl,hb2⟩;have D2:=Oi (D1.out.same hb2);have T2:=Oi (T1.out.trans (Below.touch hb2 b (b+1)));have L3:=Oi (dI w2 B0 b a xs c p1 11 D2.out (by have:=HP1.out;omega) (by omega))
 clear LD D1 T1 hb2 n0 n1;obtain ⟨tn,htn⟩:∃ l,l=Lib.itoa n:=⟨_,rfl⟩;have HTN:Hid (tn.length≤21∧(10:UInt8)∉tn):=by rw [htn];exact ⟨HNL.out,ku n⟩
 rw [← htn];clear htn HNL;go_wp2_with fail;refine L3.out.mono ?_;rintro e w3 ⟨z,p3,rfl,⟨z0,z1⟩,hp3,D3,T3⟩;have HP3:Hid (p3≤p+2):=by have:=HP1.out;rw [Hid];omega
 have D3:=Oi D3;have T3':=Oi (T2.out.trans T3);have s3:w.heap.size≤w3.heap.size:=T3'.out.size;have hb3:b<w3.heap.size:=by omega
 clear L3 D2 T2 HP1 hp3 T3;have hz:z=0∨z=1∨z=2∨z=3∨z=4∨z=5∨z=6∨z=7∨z=8∨z=9∨z=10:=by omega
 clear z0 z1
 rcases hz with rfl | rfl | rfl | rfl | rfl | rfl | rfl | rfl | rfl | rfl | rfl
 · have B4:=ai w3 (.cells #[.string ⟨#[]⟩,.string ⟨#[119,104,97,116]⟩,.string ⟨#[103,97,109,101,32,49,44,49,59,48,59,48,59,48]⟩,.string ⟨#[103,97,109,101,32,49,44,49,59,49,48,48,49,59,48]⟩,.string ⟨#[103,97,109,101,32,120]⟩,.string ⟨#[118,97,108,117,101,115,32,49,44,49,59,45,49]⟩,.string ⟨#[118,97,108,117,101,115,32,48,44,49,59,110,111,110,101]⟩,.string ⟨#[99,114,111,119,100,32,49,44,49,59,48,59,48]⟩,.string ⟨#[99,114,111,119,100,32,49,44,49,59,49,59,48,44,48]⟩,.string ⟨#[116,117,114,110,115,32,110,111,110,101]⟩,.string ⟨#[116,117,114,110,115,32,55,102,56,48,48,48,48,48]⟩,.string ⟨#[116,97,107,101,32,110,111,110,101]⟩,.string ⟨#[116,97,107,101,32,57]⟩,.string ⟨#[101,110,118,121,32,45,49]⟩,.string ⟨#[114,101,115,116,32,120]⟩,.string ⟨#[116,111,116,97,108,32,57]⟩,.string ⟨#[108,101,97,114,110,32,48]⟩,.string ⟨#[114,101,110,116,32,45,49]⟩,.string ⟨#[115,116,101,112,115,32,57,32,48]⟩,.string ⟨#[115,116,101,112,115,32,48]⟩,.string ⟨#[112,117,114,101,32,110,111,119]⟩] 9)
   have K4:Hid (Blk (w3.alloc (.cells #[.string ⟨#[]⟩,.string ⟨#[119,104,97,116]⟩,.string ⟨#[103,97,109,101,32,49,44,49,59,48,59,48,59,48]⟩,.string ⟨#[103,97,109,101,32,49,44,49,59,49,48,48,49,59,48]⟩,.string ⟨#[103,97,109,101,32,120]⟩,.string ⟨#[118,97,108,117,101,115,32,49,44,49,59,45,49]⟩,.string ⟨#[118,97,108,117,101,115,32,48,44,49,59,110,111,110,101]⟩,.string ⟨#[99,114,111,119,100,32,49,44,49,59,48,59,48]⟩,.string ⟨#[99,114,111,119,100,32,49,44,49,59,49,59,48,44,48]⟩,.string ⟨#[116,117,114,110,115,32,110,111,110,101]⟩,.string ⟨#[116,117,114,110,115,32,55,102,56,48,48,48,48,48]⟩,.string ⟨#[116,97,107,101,32,110,111,110,101]⟩,.string ⟨#[116,97,107,101,32,57]⟩,.string ⟨#[101,110,118,121,32,45,49]⟩,.string ⟨#[114,101,115,116,32,120]⟩,.string ⟨#[116,111,116,97,108,32,57]⟩,.string ⟨#[108,101,97,114,110,32,48]⟩,.string ⟨#[114,101,110,116,32,45,49]⟩,.string ⟨#[115,116,101,112,115,32,57,32,48]⟩,.string ⟨#[115,116,101,112,115,32,48]⟩,.string ⟨#[112,117,114,101,32,110,111,119]⟩] 9)) w3.heap.size (bF [[],[119,104,97,116],[103,97,109,101,32,49,44,49,59,48,59,48,59,48],[103,97,109,101,32,49,44,49,59,49,48,48,49,59,48],[103,97,109,101,32,120],[118,97,108,117,101,115,32,49,44,49,59,45,49],[118,97,108,117,101,115,32,48,44,49,59,110,111,110,101],[99,114,111,119,100,32,49,44,49,59,48,59,48],[99,114,111,119,100,32,49,44,49,59,49,59,48,44,48],[116,117,114,110,115,32,110,111,110,101],[116,117,114,110,115,32,55,102,56,48,48,48,48,48],[116,97,107,101,32,110,111,110,101],[116,97,107,101,32,57],[101,110,118,121,32,45,49],[114,101,115,116,32,120],[116,111,116,97,108,32,57],[108,101,97,114,110,32,48],[114,101,110,116,32,45,49],[115,116,101,112,115,32,57,32,48],[115,116,101,112,115,32,48],[112,117,114,101,32,110,111,119]]) 9):=Blk.new w3 [.string ⟨#[]⟩,.string ⟨#[119,104,97,116]⟩,.string ⟨#[103,97,109,101,32,49,44,49,59,48,59,48,59,48]⟩,.string ⟨#[103,97,109,101,32,49,44,49,59,49,48,48,49,59,48]⟩,.string ⟨#[103,97,109,101,32,120]⟩,.string ⟨#[118,97,108,117,101,115,32,49,44,49,59,45,49]⟩,.string ⟨#[118,97,108,117,101,115,32,48,44,49,59,110,111,110,101]⟩,.string ⟨#[99,114,111,119,100,32,49,44,49,59,48,59,48]⟩,.string ⟨#[99,114,111,119,100,32,49,44,49,59,49,59,48,44,48]⟩,.string ⟨#[116,117,114,110,115,32,110,111,110,101]⟩,.string ⟨#[116,117,114,110,115,32,55,102,56,48,48,48,48,48]⟩,.string ⟨#[116,97,107,101,32,110,111,110,101]⟩,.string ⟨#[116,97,107,101,32,57]⟩,.string ⟨#[101,110,118,121,32,45,49]⟩,.string ⟨#[114,101,115,116,32,120]⟩,.string ⟨#[116,111,116,97,108,32,57]⟩,.string ⟨#[108,101,97,114,110,32,48]⟩,.string ⟨#[114,101,110,116,32,45,49]⟩,.string ⟨#[115,116,101,112,115,32,57,32,48]⟩,.string ⟨#[115,116,101,112,115,32,48]⟩,.string ⟨#[112,117,114,101,32,110,111,119]⟩] 9;have D4:=Oi (D3.out.same B4);have T4:=Oi (T3'.out.trans (Below.touch B4 b (b+1)));have L4:=Oi (lR _ B0 b a xs c p3 D4.out (by have:=HP3.out;omega) w3.heap.size 21 9 [[],[119,104,97,116],[103,97,109,101,32,49,44,49,59,48,59,48,59,48],[103,97,109,101,32,49,44,49,59,49,48,48,49,59,48],[103,97,109,101,32,120],[118,97,108,117,101,115,32,49,44,49,59,45,49],[118,97,108,117,101,115,32,48,44,49,59,110,111,110,101],[99,114,111,119,100,32,49,44,49,59,48,59,48],[99,114,111,119,100,32,49,44,49,59,49,59,48,44,48],[116,117,114,110,115,32,110,111,110,101],[116,117,114,110,115,32,55,102,56,48,48,48,48,48],[116,97,107,101,32,110,111,110,101],[116,97,107,101,32,57],[101,110,118,121,32,45,49],[114,101,115,116,32,120],[116,111,116,97,108,32,57],[108,101,97,114,110,32,48],[114,101,110,116,32,45,49],[115,116,101,112,115,32,57,32,48],[115,116,101,112,115,32,48],[112,117,114,101,32,110,111,119]] rfl (by omega) (by omega) hb3 K4.out)
   have HW:=Oi (show ∀ s∈([[],[119,104,97,116],[103,97,109,101,32,49,44,49,59,48,59,48,59,48],[103,97,109,101,32,49,44,49,59,49,48,48,49,59,48],[103,97,109,101,32,120],[118,97,108,117,101,115,32,49,44,49,59,45,49],[118,97,108,117,101,115,32,48,44,49,59,110,111,110,101],[99,114,111,119,100,32,49,44,49,59,48,59,48],[99,114,111,119,100,32,49,44,49,59,49,59,48,44,48],[116,117,114,110,115,32,110,111,110,101],[116,117,114,110,115,32,55,102,56,48,48,48,48,48],[116,97,107,101,32,110,111,110,101],[116,97,107,101,32,57],[101,110,118,121,32,45,49],[114,101,115,116,32,120],[116,111,116,97,108,32,57],[108,101,97,114,110,32,48],[114,101,110,116,32,45,49],[115,116,101,112,115,32,57,32,48],[115,116,101,112,115,32,48],[112,117,114,101,32,110,111,119]]:List (List UInt8)),s.length≤30∧(10:UInt8)∉s by decide)
   clear B4 K4;go_wp2_with fail;refine L4.out.mono ?_;rintro e w5 ⟨s,p5,rfl,hs,hp5,D5,T5⟩;obtain ⟨hs1,hs2⟩:=HW.out s hs;have T5':=Oi (T4.out.trans T5);have HP5:Hid (p5≤p+3):=by have:=HP3.out;rw [Hid];omega
   have HS:=Oi (⟨hs1,hs2⟩:s.length≤30∧(10:UInt8)∉s);have D5:=Oi D5;clear L4 D4 T4 HW hs hs1 hs2 hp5 T5 T3' D3 HP3;go_wp2_with fail;go_ret;exact ⟨s,p5,rfl,⟨by have:=HS.out.1;omega,HS.out.2⟩,by have:=HP5.out;omega,D5.out,T5'.out⟩
 · have L4:=Oi (NV w3 B0 b a xs c p3 D3.out (by have:=HP3.out;omega))
   go_wp2_with fail;refine L4.out.mono ?_;rintro e w5 ⟨R,C,aA,cA,A,aB,cB,B,p5,rfl,⟨hR,hC⟩,⟨lA,lB⟩,⟨hA,hB⟩,OG,hp5,D5,T5⟩;have hRC:R * C≤4 * 4:=Nat.mul_le_mul hR.2 hC.2;obtain ⟨hok,hle⟩:=N4 (p:=(R:Int)) (q:=(C:Int)) (by omega) (by omega) (fun v hv=>by have:=hA v hv;omega) (by rw [lA];omega) (fun v hv=>by have:=hB v hv;omega) (by rw [lB];omega)
   have B6:=ai w5 (.cells #[.int .i64 R,.int .i64 C,.slice aA A.length cA,.slice aB B.length cB] 26);have K6:=Blk.new w5 [.int .i64 R,.int .i64 C,.slice aA A.length cA,.slice aB B.length cB] 26;have D6:=Oi (D5.same B6);have T6:=Oi ((T3'.out.trans T5).trans (Below.touch B6 b (b+1)));have rd:=(OG.keep B6).rd;have L6:=Oi (CS _ w5.heap.size 0 R C aA cA A aB cB B (K6.cell 0) (K6.cell 1) (K6.cell 2) (K6.cell 3) ⟨rd.1.mono (by simp),rd.2.mono (by simp)⟩ hok)
   have HLE:=Oi (pg (x:=[103,97,109,101,32]) (by decide) (by decide) (show (bt [[(R:Int),(C:Int)],A,B]).length≤1790 by omega) (nt _))
   have hz:(bs (bt [[(R:Int),(C:Int)],A,B])).size≤1790:=by rw [aE];omega
   have hn:¬ 9223372036854775807<5+(bs (bt [[(R:Int),(C:Int)],A,B])).size:=by omega
   have HP5:Hid (p5≤p+70):=by have:=HP3.out;rw [Hid];omega
   clear L4 D5 T5 OG rd B6 K6 hok hle hA hB lA lB hR hC hRC hp5 D3 T3' HP3;go_wp2_with fail;refine L6.out.mono ?_;rintro e w7 ⟨rfl,hb7⟩;have D7:=Oi (D6.out.same hb7);have T7:=Oi (T6.out.trans (Below.touch hb7 b (b+1)));clear L6 D6 T6 hb7;go_wp2_with fail;go_ret;exact ⟨_,p5,by rw [← cD];rfl,HLE.out,HP5.out,D7.out,T7.out⟩
 · have L4:=Oi (I2 w3 B0 b a xs c p3 2 2 D3.out (by have:=HP3.out;omega) (by omega) (by omega))
   go_wp2_with fail;refine L4.out.mono ?_;rintro e w5 ⟨aV,cV,V,p5,rfl,lV,hV,OV,hp5,D5,T5⟩;obtain ⟨hok,hle⟩:=Oh (p:=((2:Nat):Int)) (q:=((2:Nat):Int)) (by omega) (by omega) (fun v hv=>by have:=hV v hv;omega) (by rw [lV];omega)
   have B6:=ai w5 (.cells #[.int .i64 ((2:Nat):Int),.int .i64 ((2:Nat):Int),.slice aV V.length cV] 28);have K6:=Blk.new w5 [.int .i64 ((2:Nat):Int),.int .i64 ((2:Nat):Int),.slice aV V.length cV] 28;have D6:=Oi (D5.same B6);have T6:=Oi ((T3'.out.trans T5).trans (Below.touch B6 b (b+1)));have rd:=(OV.keep B6).rd;have L6:=Oi (zb _ w5.heap.size 0 ((2:Nat):Int) ((2:Nat):Int) aV cV V (K6.cell 0) (K6.cell 1) (K6.cell 2) (rd.mono (by simp)) hok)
   have HLE:=Oi (pg (x:=[118,97,108,117,101,115,32]) (by decide) (by decide) (show (bt [[((2:Nat):Int),((2:Nat):Int)],V]).length≤1790 by omega) (nt _))
   have hz:(bs (bt [[((2:Nat):Int),((2:Nat):Int)],V])).size≤1790:=by rw [aE];omega
   have hn:¬ 9223372036854775807<7+(bs (bt [[((2:Nat):Int),((2:Nat):Int)],V])).size:=by omega
   have HP5:Hid (p5≤p+70):=by have:=HP3.out;rw [Hid];omega
   clear L4 D5 T5 OV rd B6 K6 hok hle hV lV hp5 D3 T3' HP3;go_wp2_with fail;refine L6.out.mono ?_;rintro e w7 ⟨rfl,hb7⟩;have D7:=Oi (D6.out.same hb7);have T7:=Oi (T6.out.trans (Below.touch hb7 b (b+1)));clear L6 D6 T6 hb7;go_wp2_with fail;go_ret;exact ⟨_,p5,by rw [← cD];rfl,HLE.out,HP5.out,D7.out,T7.out⟩
 · have L4:=Oi (EU w3 B0 b a xs c p3 D3.out (by have:=HP3.out;omega))
   go_wp2_with fail;refine L4.out.mono ?_;rintro e w5 ⟨U,N,hU,hN,aW,cW,W,aK,cK,K,p5,rfl,lW,hW,lK,hK,⟨m,hm,oW,oK⟩,hp5,D5,T5⟩;have hUN:N * U≤4 * 4:=Nat.mul_le_mul hN.2 hU.2;have h16:(2:Int) ^ N≤16:=by
    obtain h | h | h | h:N=1∨N=2∨N=3∨N=4:=by omega
    all_goals (subst h;decide)
   obtain ⟨hok,hle⟩:=N4 (p:=(U:Int)) (q:=(N:Int)) (by omega) (by omega) (fun v hv=>by have:=hW v hv;omega) (show W.length≤16 by omega) (fun v hv=>by have:=hK v hv;omega) (show K.length≤16 by rw [lK];omega)
   have B6:=ai w5 (.cells #[.int .i64 U,.int .i64 N,.slice aW W.length cW,.slice aK K.length cK] 30);have K6:=Blk.new w5 [.int .i64 U,.int .i64 N,.slice aW W.length cW,.slice aK K.length cK] 30;have D6:=Oi (D5.same B6);have T6:=Oi ((T3'.out.trans T5).trans (Below.touch B6 b (b+1)));have L6:=Oi (AY _ w5.heap.size 0 U N aW cW W aK cK K (K6.cell 0) (K6.cell 1) (K6.cell 2) (K6.cell 3) ⟨(oW.keep B6).rd.mono (by simp;omega),(oK.keep B6).rd.mono (by simp)⟩ hok)
   have HLE:=Oi (pg (x:=[99,114,111,119,100,32]) (by decide) (by decide) (show (bt [[(U:Int),(N:Int)],W,K]).length≤1790 by omega) (nt _))
   have hz:(bs (bt [[(U:Int),(N:Int)],W,K])).size≤1790:=by rw [aE];omega
   have hn:¬ 9223372036854775807<6+(bs (bt [[(U:Int),(N:Int)],W,K])).size:=by omega
   have HP5:Hid (p5≤p+70):=by have:=HP3.out;rw [Hid];omega
   clear L4 D5 T5 oW oK B6 K6 hok hle hW hK lW lK hU hN hUN hp5 D3 T3' HP3 hm h16;go_wp2_with fail;refine L6.out.mono ?_;rintro e w7 ⟨rfl,hb7⟩;have D7:=Oi (D6.out.same hb7);have T7:=Oi (T6.out.trans (Below.touch hb7 b (b+1)));clear L6 D6 T6 hb7;go_wp2_with fail;go_ret;exact ⟨_,p5,by rw [← cD];rfl,HLE.out,HP5.out,D7.out,T7.out⟩
 · have L4:=Oi (Lo w3 B0 b a xs c p3 D3.out (by have:=HP3.out;omega))
   go_wp2_with fail;refine L4.out.mono ?_;rintro e w5 ⟨aT,cT,F,p5,rfl,hF,hv,OF,hp5,D5,T5⟩;have D6:=Oi D5;have T6:=Oi (T3'.out.trans T5);have L6:=Oi (AX w5 aT cT F (OF.rd.mono (Nat.le_refl _)) (fun y hy=>(hv y hy).2.2) hF.1 (by omega))
   have hle:=Kk F;have HLE:=Oi (pg (x:=[116,117,114,110,115,32]) (by decide) (by decide) (show (bJ F).length≤1790 by omega) (vv _))
   have hz:(bs (bJ F)).size≤1790:=by rw [aE];omega
   have hn:¬ 9223372036854775807<6+(bs (bJ F)).size:=by omega
   have HP5:Hid (p5≤p+70):=by have:=HP3.out;rw [Hid];omega
   clear L4 D5 T5 OF hle hF hv hp5 D3 T3' HP3;go_wp2_with fail;refine L6.out.mono ?_;rintro e w7 ⟨rfl,hb7⟩;have D7:=Oi (D6.out.same hb7);have T7:=Oi (T6.out.trans (Below.touch hb7 b (b+1)));clear L6 D6 T6 hb7;go_wp2_with fail;go_ret;exact ⟨_,p5,by rw [← cD];rfl,HLE.out,HP5.out,D7.out,T7.out⟩
 · have B4:=ai w3 (.cells #[.string ⟨#[116,117,114,110]⟩,.string ⟨#[112,117,114,101]⟩,.string ⟨#[112,97,114,101,116,111]⟩,.string ⟨#[108,101,102,116]⟩,.string ⟨#[115,97,102,101]⟩] 9)
   have K4:Hid (Blk (w3.alloc (.cells #[.string ⟨#[116,117,114,110]⟩,.string ⟨#[112,117,114,101]⟩,.string ⟨#[112,97,114,101,116,111]⟩,.string ⟨#[108,101,102,116]⟩,.string ⟨#[115,97,102,101]⟩] 9)) w3.heap.size (bF [[116,117,114,110],[112,117,114,101],[112,97,114,101,116,111],[108,101,102,116],[115,97,102,101]]) 9):=Blk.new w3 [.string ⟨#[116,117,114,110]⟩,.string ⟨#[112,117,114,101]⟩,.string ⟨#[112,97,114,101,116,111]⟩,.string ⟨#[108,101,102,116]⟩,.string ⟨#[115,97,102,101]⟩] 9;have D4:=Oi (D3.out.same B4);have T4:=Oi (T3'.out.trans (Below.touch B4 b (b+1)));have L4:=Oi (lR _ B0 b a xs c p3 D4.out (by have:=HP3.out;omega) w3.heap.size 5 9 [[116,117,114,110],[112,117,114,101],[112,97,114,101,116,111],[108,101,102,116],[115,97,102,101]] rfl (by omega) (by omega) hb3 K4.out)
   have HW:=Oi (show ∀ s∈([[116,117,114,110],[112,117,114,101],[112,97,114,101,116,111],[108,101,102,116],[115,97,102,101]]:List (List UInt8)),s.length≤30∧(10:UInt8)∉s by decide)
   clear B4 K4;go_wp2_with fail;refine L4.out.mono ?_;rintro e w5 ⟨s,p5,rfl,hs,hp5,D5,T5⟩;obtain ⟨hs1,hs2⟩:=HW.out s hs;have T5':=Oi (T4.out.trans T5);have HP5:Hid (p5≤p+3):=by have:=HP3.out;rw [Hid];omega
   have HS:=Oi (⟨hs1,hs2⟩:s.length≤30∧(10:UInt8)∉s);have D5:=Oi D5;clear L4 D4 T4 HW hs hs1 hs2 hp5 T5 T3' D3 HP3;go_wp2_with fail;go_ret;exact ⟨s,p5,rfl,⟨by have:=HS.out.1;omega,HS.out.2⟩,by have:=HP5.out;omega,D5.out,T5'.out⟩
 · have B4:=ai w3 (.cells #[.string ⟨#[114,111,117,110,100,115]⟩,.string ⟨#[112,114,111,100,117,99,116]⟩,.string ⟨#[112,114,105,99,101]⟩,.string ⟨#[116,111,108,108,115]⟩,.string ⟨#[97,103,114,101,101]⟩] 9)
   have K4:Hid (Blk (w3.alloc (.cells #[.string ⟨#[114,111,117,110,100,115]⟩,.string ⟨#[112,114,111,100,117,99,116]⟩,.string ⟨#[112,114,105,99,101]⟩,.string ⟨#[116,111,108,108,115]⟩,.string ⟨#[97,103,114,101,101]⟩] 9)) w3.heap.size (bF [[114,111,117,110,100,115],[112,114,111,100,117,99,116],[112,114,105,99,101],[116,111,108,108,115],[97,103,114,101,101]]) 9):=Blk.new w3 [.string ⟨#[114,111,117,110,100,115]⟩,.string ⟨#[112,114,111,100,117,99,116]⟩,.string ⟨#[112,114,105,99,101]⟩,.string ⟨#[116,111,108,108,115]⟩,.string ⟨#[97,103,114,101,101]⟩] 9;have D4:=Oi (D3.out.same B4);have T4:=Oi (T3'.out.trans (Below.touch B4 b (b+1)));have L4:=Oi (lR _ B0 b a xs c p3 D4.out (by have:=HP3.out;omega) w3.heap.size 5 9 [[114,111,117,110,100,115],[112,114,111,100,117,99,116],[112,114,105,99,101],[116,111,108,108,115],[97,103,114,101,101]] rfl (by omega) (by omega) hb3 K4.out)
   have HW:=Oi (show ∀ s∈([[114,111,117,110,100,115],[112,114,111,100,117,99,116],[112,114,105,99,101],[116,111,108,108,115],[97,103,114,101,101]]:List (List UInt8)),s.length≤30∧(10:UInt8)∉s by decide)
   clear B4 K4;go_wp2_with fail;refine L4.out.mono ?_;rintro e w5 ⟨s,p5,rfl,hs,hp5,D5,T5⟩;obtain ⟨hs1,hs2⟩:=HW.out s hs;have T5':=Oi (T4.out.trans T5);have HP5:Hid (p5≤p+3):=by have:=HP3.out;rw [Hid];omega
   have HS:=Oi (⟨hs1,hs2⟩:s.length≤30∧(10:UInt8)∉s);have D5:=Oi D5;clear L4 D4 T4 HW hs hs1 hs2 hp5 T5 T3' D3 HP3;go_wp2_with fail;go_ret;exact ⟨s,p5,rfl,⟨by have:=HS.out.1;omega,HS.out.2⟩,by have:=HP5.out;omega,D5.out,T5'.out⟩
 · have B4:=ai w3 (.cells #[.string ⟨#[116,97,107,101,32]⟩,.string ⟨#[101,110,118,121,32]⟩,.string ⟨#[114,101,115,116,32]⟩,.string ⟨#[116,111,116,97,108,32]⟩] 9)
   have K4:Hid (Blk (w3.alloc (.cells #[.string ⟨#[116,97,107,101,32]⟩,.string ⟨#[101,110,118,121,32]⟩,.string ⟨#[114,101,115,116,32]⟩,.string ⟨#[116,111,116,97,108,32]⟩] 9)) w3.heap.size (bF [[116,97,107,101,32],[101,110,118,121,32],[114,101,115,116,32],[116,111,116,97,108,32]]) 9):=Blk.new w3 [.string ⟨#[116,97,107,101,32]⟩,.string ⟨#[101,110,118,121,32]⟩,.string ⟨#[114,101,115,116,32]⟩,.string ⟨#[116,111,116,97,108,32]⟩] 9;have D4:=Oi (D3.out.same B4);have T4:=Oi (T3'.out.trans (Below.touch B4 b (b+1)));have L4:=Oi (lR _ B0 b a xs c p3 D4.out (by have:=HP3.out;omega) w3.heap.size 4 9 [[116,97,107,101,32],[101,110,118,121,32],[114,101,115,116,32],[116,111,116,97,108,32]] rfl (by omega) (by omega) hb3 K4.out)
   have HW:=Oi (show ∀ s∈([[116,97,107,101,32],[101,110,118,121,32],[114,101,115,116,32],[116,111,116,97,108,32]]:List (List UInt8)),s.length≤30∧(10:UInt8)∉s by decide)
   clear B4 K4;go_wp2_with fail;refine L4.out.mono ?_;rintro e w5 ⟨s,p5,rfl,hs,hp5,D5,T5⟩;obtain ⟨hs1,hs2⟩:=HW.out s hs;have T5':=Oi (T4.out.trans T5);have HP5:Hid (p5≤p+3):=by have:=HP3.out;rw [Hid];omega
   have HS:=Oi (⟨hs1,hs2⟩:s.length≤30∧(10:UInt8)∉s);have D5:=Oi D5;clear L4 D4 T4 HW hs hs1 hs2 hp5 T5 T3' D3 HP3;have L6:=Oi (CF w5 B0 b a xs c p5 D5.out (by have:=HP5.out;omega))
   go_wp2_with fail;refine L6.out.mono ?_;rintro e w7 ⟨l,p7,rfl,⟨ll,hl⟩,hp7,D7,T7⟩;have hle:=fp (nW (xs:=l) (fun v hv=>by have:=hl v hv;omega) (by omega))
   have HLE:Hid (gN (s ++ aJ l)):=⟨by have:=HS.out.1;rw [List.length_append];omega,by simp only [List.mem_append,not_or];exact ⟨HS.out.2,sp l⟩⟩;have HP7:Hid (p7≤p+70):=by have:=HP5.out;rw [Hid];omega
   have D7:=Oi D7;have T7':=Oi (T5'.out.trans T7);have hz:(bs s).size≤30:=by rw [aE];exact HS.out.1
   have hz2:(bs (aJ l)).size≤1000:=by rw [aE];omega
   have hn:¬ 9223372036854775807<(bs s).size+(bs (aJ l)).size:=by omega
   clear L6 hle ll hl hp7 T7 D5 T5' HP5 HS;go_wp2_with fail;go_ret;exact ⟨_,p7,by rw [← cD];rfl,HLE.out,HP7.out,D7.out,T7'.out⟩
 · have B4:=ai w3 (.cells #[.string ⟨#[108,101,97,114,110,32]⟩,.string ⟨#[114,101,110,116,32]⟩] 9)
   have K4:Hid (Blk (w3.alloc (.cells #[.string ⟨#[108,101,97,114,110,32]⟩,.string ⟨#[114,101,110,116,32]⟩] 9)) w3.heap.size (bF [[108,101,97,114,110,32],[114,101,110,116,32]]) 9):=Blk.new w3 [.string ⟨#[108,101,97,114,110,32]⟩,.string ⟨#[114,101,110,116,32]⟩] 9;have D4:=Oi (D3.out.same B4);have T4:=Oi (T3'.out.trans (Below.touch B4 b (b+1)));have L4:=Oi (lR _ B0 b a xs c p3 D4.out (by have:=HP3.out;omega) w3.heap.size 2 9 [[108,101,97,114,110,32],[114,101,110,116,32]] rfl (by omega) (by omega) hb3 K4.out)
   have HW:=Oi (show ∀ s∈([[108,101,97,114,110,32],[114,101,110,116,32]]:List (List UInt8)),s.length≤30∧(10:UInt8)∉s by decide)
   clear B4 K4;go_wp2_with fail;refine L4.out.mono ?_;rintro e w5 ⟨s,p5,rfl,hs,hp5,D5,T5⟩;obtain ⟨hs1,hs2⟩:=HW.out s hs;have T5':=Oi (T4.out.trans T5);have HP5:Hid (p5≤p+3):=by have:=HP3.out;rw [Hid];omega
   have HS:=Oi (⟨hs1,hs2⟩:s.length≤30∧(10:UInt8)∉s);have D5:=Oi D5;clear L4 D4 T4 HW hs hs1 hs2 hp5 T5 T3' D3 HP3;have hz:(bs s).size≤30:=by rw [aE];exact HS.out.1
   have hz2:(bs tn).size≤21:=by rw [aE];exact HTN.out.1
   have hn:¬ 9223372036854775807<(bs s).size+(bs tn).size:=by omega
   have HLE:Hid (gN (s ++ tn)):=⟨by have:=HS.out.1;have:=HTN.out.1;rw [List.length_append];omega,by simp only [List.mem_append,not_or];exact ⟨HS.out.2,HTN.out.2⟩⟩;go_wp2_with fail;go_ret;exact ⟨_,p5,by rw [← cD];rfl,HLE.out,by have:=HP5.out;omega,D5.out,T5'.out⟩
 · have L4:=Oi (dI w3 B0 b a xs c p3 4 D3.out (by have:=HP3.out;omega) (by omega))
   go_wp2_with fail;refine L4.out.mono ?_;rintro e w5 ⟨x,p5,rfl,⟨x0,x1⟩,hp5,D5,T5⟩;have L6:=Oi (nl w5 x (by omega) (by omega))
   have hle:=iF (n:=x) (by omega) (by omega)
   have HLE:Hid (gN (([115,116,101,112,115,32] ++ Lib.itoa x) ++ [32,48])):=⟨by simp only [List.length_append,List.length_cons,List.length_nil];omega,by simp only [List.mem_append,not_or];exact ⟨⟨by decide,ku x⟩,by decide⟩⟩;have HP5:Hid (p5≤p+70):=by have:=HP3.out;rw [Hid];omega
   have D6:=Oi D5;have T6:=Oi (T3'.out.trans T5);have hz:(bs (Lib.itoa x)).size≤21:=by rw [aE];exact hle
   have hn:¬ 9223372036854775807<6+(bs (Lib.itoa x)).size:=by omega
   have hn2:¬ 9223372036854775807<6+(bs (Lib.itoa x)).size+2:=by omega
   clear L4 D5 T5 hle x0 x1 hp5 D3 T3' HP3;go_wp2_with fail;refine L6.out.mono ?_;rintro e w7 ⟨rfl,hb7⟩;have D7:=Oi (D6.out.same hb7);have T7:=Oi (T6.out.trans (Below.touch hb7 b (b+1)));clear L6 D6 T6 hb7;go_wp2_with fail;go_ret;exact ⟨_,p5,by rw [← cD,← cD];rfl,HLE.out,HP5.out,D7.out,T7.out⟩
 · have B4:=ai w3 (.cells #[.string ⟨#[103,97,109,101]⟩,.string ⟨#[118,97,108,117,101,115]⟩,.string ⟨#[99,114,111,119,100]⟩,.string ⟨#[116,117,114,110,115]⟩] 9)
   have K4:Hid (Blk (w3.alloc (.cells #[.string ⟨#[103,97,109,101]⟩,.string ⟨#[118,97,108,117,101,115]⟩,.string ⟨#[99,114,111,119,100]⟩,.string ⟨#[116,117,114,110,115]⟩] 9)) w3.heap.size (bF [[103,97,109,101],[118,97,108,117,101,115],[99,114,111,119,100],[116,117,114,110,115]]) 9):=Blk.new w3 [.string ⟨#[103,97,109,101]⟩,.string ⟨#[118,97,108,117,101,115]⟩,.string ⟨#[99,114,111,119,100]⟩,.string ⟨#[116,117,114,110,115]⟩] 9;have D4:=Oi (D3.out.same B4);have T4:=Oi (T3'.out.trans (Below.touch B4 b (b+1)));have L4:=Oi (lR _ B0 b a xs c p3 D4.out (by have:=HP3.out;omega) w3.heap.size 4 9 [[103,97,109,101],[118,97,108,117,101,115],[99,114,111,119,100],[116,117,114,110,115]] rfl (by omega) (by omega) hb3 K4.out)
   have HW:=Oi (show ∀ s∈([[103,97,109,101],[118,97,108,117,101,115],[99,114,111,119,100],[116,117,114,110,115]]:List (List UInt8)),s.length≤30∧(10:UInt8)∉s by decide)
   clear B4 K4;go_wp2_with fail;refine L4.out.mono ?_;rintro e w5 ⟨s,p5,rfl,hs,hp5,D5,T5⟩;obtain ⟨hs1,hs2⟩:=HW.out s hs;have T5':=Oi (T4.out.trans T5);have HP5:Hid (p5≤p+3):=by have:=HP3.out;rw [Hid];omega
   have HS:=Oi (⟨hs1,hs2⟩:s.length≤30∧(10:UInt8)∉s);have D5:=Oi D5;clear L4 D4 T4 HW hs hs1 hs2 hp5 T5 T3' D3 HP3;go_wp2_with fail;go_ret;exact ⟨s,p5,rfl,⟨by have:=HS.out.1;omega,HS.out.2⟩,by have:=HP5.out;omega,D5.out,T5'.out⟩
theorem Db (w:World) (a:Option Addr) (c:Nat) (xs:List Int) (h:Rd w w.heap.size a (jg xs)) (hx:∀ x∈xs,0≤x∧x≤255) (hl:xs.length≤1048576) :
 Calls Tryz.prog 7 #[.slice a xs.length c] w fun e w'=>∃ (a':Option Addr) (c':Nat) (ls:List (List UInt8)),e=.returned (.slice a' ls.length c')∧(1≤ls.length∧ls.length≤5∧ls.length≤c')∧(∀ l∈ls,gN l)∧Rd w' w'.heap.size a' (bF ls)∧Below w.heap.size w w':=by
 have LF:=Oi (CQ w a xs.length c);have HX:=Oi hx;have HH:=Oi h;clear h hx
 go_enter Tryz.func7,Tryz.ntmps7;go_wp2_with fail;refine LF.out.mono ?_;rintro e wf ⟨rfl,S1,Bf,sf⟩;obtain ⟨b,hb⟩:∃ b,b=w.heap.size:=⟨_,rfl⟩;have sb:wf.heap.size=b+1:=by rw [hb];exact sf
 have Df:DS wf b b a xs c 0:=⟨by rw [hb];exact S1,by rw [hb];exact HH.out.below Bf (Nat.le_refl _),Nat.le_refl _,HX.out,hl⟩;have Bf0:=ai wf (.cells #[] 9);have D0:=Df.same Bf0;have L0:=Oi (dI _ b b a xs c 0 5 D0 (by omega) (by omega))
 have O0:Hid ((wf.alloc (.cells #[] 9)).ownsRow (b+1) 9 1 (.slice (some ⟨wf.heap.size,0,none⟩) 0 0) 0 []):=by have:=bz wf 9;rw [← sb];exact this
 have BW:=Oi Bf;have T0:Touch wf (wf.alloc (.cells #[] 9)) b (b+1):=Below.touch Bf0 b (b+1);obtain ⟨W,hW⟩:∃ W,W=wf.alloc (.cells #[] 9):=⟨_,rfl⟩;have hWs:W.heap.size=b+2:=by rw [hW];simp;omega
 rw [← hW] at L0 O0 T0;rw [← hb];have hbw:w.heap.size≤b:=by omega
 have SB:=Oi sb;have hWs2:b+2≤W.heap.size:=by omega
 clear LF S1 sf Df Bf0 D0 HH HX hb sb hWs
 go_upto_region 3 with fail
 rw [← hW];clear hW;have hbW:b<W.heap.size:=by omega
 go_wp2_with fail;refine L0.out.mono ?_;rintro e w0 ⟨n0,p0,rfl,⟨z0,z1⟩,hp0,D0,U0⟩;obtain ⟨n,hn⟩:∃ n:Nat,1+n0=(n:Int):=⟨(1+n0).toNat,by omega⟩;have hn5:1≤n∧n≤5:=by omega
 have HN5:=Oi hn5;have z4:n0≤4:=by omega
 have D0:=Oi D0;have O0':=Oi (aP O0.out (cI U0) (by omega))
 have hws0:W.heap.size≤w0.heap.size:=U0.size;have U0':=Oi (T0.trans U0);have HN:=Oi hn;have nn:(n:Int)≤5:=by omega
 clear L0 O0 T0 U0 z1 hn5 hn
 go_upto_region 4 with fail
 go_loopw [5,4] (fun iv v wr=>∃ (k m:Nat) (a':Option Addr) (c':Nat) (l:List (List UInt8)) (p':Nat),iv=.int .i64 k∧v=.slice a' m c'∧Hid (m+k=n)∧(k:Int)≤5∧Hid (l.length=m∧∀ y∈l,gN y)∧Hid (wr.ownsRow (b+1) 9 1 (.slice a' m c') m (bF l))∧Hid (p'≤1+70 * m)∧Hid (DS wr b b a xs c p')∧Touch wf wr b (b+1)) (fun iv _ _=>(intOf iv).toNat)
 case atStart=>exact ⟨n,0,_,_,[],p0,by rw [HN.out],rfl,by rw [Hid];omega,nn,⟨rfl,by simp⟩,O0'.out,by rw [Hid];omega,D0.out,U0'.out⟩
 case round =>
  clear D0 O0' U0';obtain ⟨k,m,a',c',l,p',rfl,rfl,hmk,hk,hL,hO,hpp,hD,hw⟩:=hrel;have k0:(0:Int)≤(k:Int):=Int.natCast_nonneg _;have hws:=hw.size
  by_cases hz:0<k
  · have hzi:(0:Int)<(k:Int):=by omega
    have L:=Oi (CE wr b b a xs c p' hD.out (by have:=hpp.out;have:=hmk.out;have:=HN5.out;omega))
    have HW:=Oi hw;clear hD hw;go_wp2_with fail;refine L.out.mono ?_;rintro e w1 ⟨x,q,rfl,hxs,hq,D1,T1⟩;have D1:=Oi D1;have W1:=Oi (HW.out.trans T1);have O1:=Oi (aP hO.out (cI T1) (by omega))
    have s1:=T1.size;have HXS:=Oi hxs;have hq2:Hid (q≤1+70 * (m+1)):=by rw [Hid];have:=hpp.out;omega
    have hm2:m≤100:=by have:=hmk.out;have:=HN5.out;omega
    have hB1:b+1≤w1.heap.size:=by have:=SB.out;omega
    clear T1 L hO HW hq hxs
    go_wp2_with (at_builtin;refine aH _ rfl _ _ 35 rfl (b+1) 9 (.string ByteArray.empty) 16 Tryz.underlying35 lL rfl _ m _ rfl O1.out (.string (bs x)) rfl rfl (by omega) (by omega) hB1 ?_)
    intro v' w' ho hgr;obtain ⟨a2,c2,rfl,_⟩:=ba ho;have hb:=ah (Below.refl (b+1) w1) O1.out hgr (Nat.le_refl _) hB1;have D2:=Oi (D1.out.touch (es hb) (by omega))
    have W2:=Oi (jP W1.out (by rw [SB.out];exact hb))
    have HO2:Hid (w'.ownsRow (b+1) 9 1 (.slice a2 (m+1) c2) (m+1) (bF (l ++ [x]))):=by rw [fZ];exact ho
    have HL2:Hid ((l ++ [x]).length=m+1∧∀ y∈l ++ [x],gN y):=by
     refine ⟨by simp [hL.out.1],fun y hy=>?_⟩
     rcases List.mem_append.1 hy with hy | hy
     · exact hL.out.2 y hy
     · simp at hy;subst hy;exact HXS.out
    clear ho hgr hb D1 W1 O1 hL;go_wp2_with fail;go_roundw
    case rel=>exact ⟨k - 1,m+1,a2,c2,l ++ [x],q,by go_num,rfl,by have:=hmk.out;rw [Hid];omega,by omega,HL2.out,HO2.out,hq2.out,D2.out,W2.out⟩
    case measure=>first | (simp [intOf];done) | (simp [intOf];omega)
  · have:k=0:=by omega
    subst this;have hmn:m=n:=hmk.out;have hlm:=hL.out.1;subst hlm;have HL5:Hid (1≤l.length∧l.length≤5∧l.length≤c'):=by
     refine ⟨by rw [hmn];exact HN5.out.1,by rw [hmn];exact HN5.out.2,?_⟩
     obtain ⟨q1,q2,hsh,hcap,-⟩:=ba hO.out;injection hsh with _ _ hc3
     rw [hc3];exact hcap
    have HRD:=Oi (ay hO.out (Nat.le_refl _));have HLL:=Oi hL.out.2;have HB:=Oi (aI BW.out hw (by omega) (by have:=SB.out;omega))
    clear hO hL hmk hpp hmn hz hw hD;go_wp2_with fail;go_ret;exact ⟨a',c',l,rfl,HL5.out,HLL.out,HRD.out,HB.out⟩
theorem om (w:World) (a b:Option Addr) (c d:Nat) (xs ys:List Int) (hx:Rd w w.heap.size a (ae xs)) (hy:Rd w w.heap.size b (ae ys)) (hlx:xs.length≤1099511627776) (hly:ys.length≤1099511627776) :
 Calls Tryz.prog 79 #[.slice a xs.length c,.slice b ys.length d] w fun e w'=>e=.returned (.bool (decide (xs=ys)))∧∃ n,w'=w.drewN n:=by
 by_cases hlen:xs.length=ys.length
 · have hb1:((xs.length:Int) != (ys.length:Int))=false:=by simp [hlen]
   go_enter Tryz.func79,Tryz.ntmps79
   go_wp2
   go_loopw [13] (fun i wr=>∃ k n:Nat,k≤xs.length∧i=.int .i64 k∧xs.take k=ys.take k∧wr=w.drewN n) (fun i _=>xs.length - (intOf i).toNat)
   case atStart=>exact ⟨0,0,Nat.zero_le _,rfl,rfl,rfl⟩
   case round =>
    obtain ⟨k,n,hk,rfl,htk',rfl⟩:=hrel;have htk:=Oi htk';clear htk'
    by_cases hlt:k<xs.length
    · obtain ⟨b1,o1,x,rfl,_,hcx,hx'⟩:=hx.get hlt
      obtain ⟨b2,o2,y,rfl,_,hcy,hy'⟩:=hy.get (k:=k) (by omega)
      have hlt2:k<ys.length:=by omega
      clear hx hy
      by_cases hxy:x=y
      · subst hxy
        go_wp2
        go_quiet (fail)
        go_wp2
        go_roundw
        case rel=>exact ⟨k+1,n+nq,by omega,by go_num,(Ca hx'.out hy'.out htk.out).2 rfl,by first | rfl | exact World.drewN_drewN _ _ _⟩
        case measure=>simp [intOf];omega
      · have hne:(x != y)=true:=by simp [hxy]
        go_wp2
        go_quiet (fail)
        go_wp2
        go_ret;exact ⟨ar (by simp [Io hx'.out hy'.out hxy]),n+nq,by first | rfl | exact World.drewN_drewN _ _ _⟩
    · have:k=xs.length:=by omega
      subst this
      go_wp2
      go_ret;exact ⟨ar (by have:=htk.out;rw [List.take_length,hlen,List.take_length] at this;simp [this]),_,rfl⟩
 · have hb1:((xs.length:Int) != (ys.length:Int))=true:=by simp;omega
   have hnn:xs≠ys:=fun e=>hlen (by rw [e])
   go_enter Tryz.func79,Tryz.ntmps79
   go_wp2
   go_ret;exact ⟨ar (by simp [hnn]),0,rfl⟩
def fb (R C:Int) (xA xB:List Int) (R' C':Int) (yA yB:List Int):Bool:=(R == R') && (C == C') && decide (xA=yA) && decide (xB=yB)
def ml (P T:Int) (xV:List Int) (P' T':Int) (yV:List Int):Bool:=(P == P') && (T == T') && decide (xV=yV)
theorem BU (w:World) (R C:Int) (aA:Option Addr) (cA:Nat) (xA:List Int) (aB:Option Addr) (cB:Nat) (xB:List Int) (S D:Int) (bA:Option Addr) (dA:Nat) (yA:List Int) (bB:Option Addr) (dB:Nat) (yB:List Int) (hA:Rd w w.heap.size aA (ae xA)) (gA:Rd w w.heap.size bA (ae yA)) (lA:xA.length≤1048576) (mA:yA.length≤1048576) (hB:Rd w w.heap.size aB (ae xB)) (gB:Rd w w.heap.size bB (ae yB)) (lB:xB.length≤1048576) (mB:yB.length≤1048576) :
 Calls Tryz.prog 36 #[.agg #[.int .i64 R,.int .i64 C,.slice aA xA.length cA,.slice aB xB.length cB],.agg #[.int .i64 S,.int .i64 D,.slice bA yA.length dA,.slice bB yB.length dB]] w fun e w'=>e=.returned (.bool (fb R C xA xB S D yA yB))∧Below w.heap.size w w':=by
 have LA:=Oi (fun (v:World) (hb:Below w.heap.size w v)=>om v aA bA cA dA xA yA ((hA.below hb (Nat.le_refl _)).mono hb.size) ((gA.below hb (Nat.le_refl _)).mono hb.size) (by omega) (by omega))
 have LB:=Oi (fun (v:World) (hb:Below w.heap.size w v)=>om v aB bB cB dB xB yB ((hB.below hb (Nat.le_refl _)).mono hb.size) ((gB.below hb (Nat.le_refl _)).mono hb.size) (by omega) (by omega))
 clear hA gA hB gB
 cases t1:(R == S) with
 | false =>
   have HF:Hid (fb R C xA xB S D yA yB=false):=by simp [Hid,fb,t1]
   skip
   go_enter Tryz.func36,Tryz.ntmps36;go_wp2_with fail;go_ret;exact ⟨ar HF.out.symm,by first | exact cd w _ _ | exact ag (cd w _ _) _ | exact ag (ag (cd w _ _) _) _⟩
 | true =>
 cases t2:(C == D) with
 | false =>
   have HF:Hid (fb R C xA xB S D yA yB=false):=by simp [Hid,fb,t1,t2]
   skip
   go_enter Tryz.func36,Tryz.ntmps36;go_wp2_with fail;go_ret;exact ⟨ar HF.out.symm,by first | exact cd w _ _ | exact ag (cd w _ _) _ | exact ag (ag (cd w _ _) _) _⟩
 | true =>
 cases u0:decide (xA=yA) with
 | false =>
   rw [u0] at LA;have HF:Hid (fb R C xA xB S D yA yB=false):=by simp only [Hid,fb,t1,t2,u0,Bool.true_and,Bool.false_and]
   clear u0
   go_enter Tryz.func36,Tryz.ntmps36;go_wp2_with fail;refine (LA.out _ ?_).mono ?_
   · first | exact cd w _ _ | exact ag (cd w _ _) _ | exact ag (ag (cd w _ _) _) _
   rintro e w1 ⟨rfl,n0,rfl⟩;go_wp2_with fail;go_ret;exact ⟨ar HF.out.symm,by first | exact cd w _ _ | exact ag (cd w _ _) _ | exact ag (ag (cd w _ _) _) _⟩
 | true =>
 rw [u0] at LA;have HF:Hid (fb R C xA xB S D yA yB=decide (xB=yB)):=by simp only [Hid,fb,t1,t2,u0,Bool.true_and]
 go_enter Tryz.func36,Tryz.ntmps36;go_wp2_with fail;refine (LA.out _ ?_).mono ?_
 · first | exact cd w _ _ | exact ag (cd w _ _) _ | exact ag (ag (cd w _ _) _) _
 rintro e w1 ⟨rfl,n0,rfl⟩;go_wp2_with fail;refine (LB.out _ ?_).mono ?_
 · first | exact cd w _ _ | exact ag (cd w _ _) _ | exact ag (ag (cd w _ _) _) _
 rintro e w1 ⟨rfl,n1,rfl⟩;go_wp2_with fail;go_ret;exact ⟨ar HF.out.symm,by first | exact cd w _ _ | exact ag (cd w _ _) _ | exact ag (ag (cd w _ _) _) _⟩
theorem xf (w:World) (R C:Int) (aA:Option Addr) (cA:Nat) (xA:List Int) (S D:Int) (bA:Option Addr) (dA:Nat) (yA:List Int) (hA:Rd w w.heap.size aA (ae xA)) (gA:Rd w w.heap.size bA (ae yA)) (lA:xA.length≤1048576) (mA:yA.length≤1048576) :
 Calls Tryz.prog 37 #[.agg #[.int .i64 R,.int .i64 C,.slice aA xA.length cA],.agg #[.int .i64 S,.int .i64 D,.slice bA yA.length dA]] w fun e w'=>e=.returned (.bool (ml R C xA S D yA))∧Below w.heap.size w w':=by
 have LA:=Oi (fun (v:World) (hb:Below w.heap.size w v)=>om v aA bA cA dA xA yA ((hA.below hb (Nat.le_refl _)).mono hb.size) ((gA.below hb (Nat.le_refl _)).mono hb.size) (by omega) (by omega))
 clear hA gA
 cases t1:(R == S) with
 | false =>
   have HF:Hid (ml R C xA S D yA=false):=by simp [Hid,ml,t1]
   skip
   go_enter Tryz.func37,Tryz.ntmps37;go_wp2_with fail;go_ret;exact ⟨ar HF.out.symm,by first | exact cd w _ _ | exact ag (cd w _ _) _ | exact ag (ag (cd w _ _) _) _⟩
 | true =>
 cases t2:(C == D) with
 | false =>
   have HF:Hid (ml R C xA S D yA=false):=by simp [Hid,ml,t1,t2]
   skip
   go_enter Tryz.func37,Tryz.ntmps37;go_wp2_with fail;go_ret;exact ⟨ar HF.out.symm,by first | exact cd w _ _ | exact ag (cd w _ _) _ | exact ag (ag (cd w _ _) _) _⟩
 | true =>
 have HF:Hid (ml R C xA S D yA=decide (xA=yA)):=by simp only [Hid,ml,t1,t2,Bool.true_and]
 go_enter Tryz.func37,Tryz.ntmps37;go_wp2_with fail;refine (LA.out _ ?_).mono ?_
 · first | exact cd w _ _ | exact ag (cd w _ _) _ | exact ag (ag (cd w _ _) _) _
 rintro e w1 ⟨rfl,n0,rfl⟩;go_wp2_with fail;go_ret;exact ⟨ar HF.out.symm,by first | exact cd w _ _ | exact ag (cd w _ _) _ | exact ag (ag (cd w _ _) _) _⟩
theorem zi (w:World) (R C:Int) (aA:Option Addr) (cA:Nat) (xA:List Int) (aB:Option Addr) (cB:Nat) (xB:List Int) (S D:Int) (bA:Option Addr) (dA:Nat) (yA:List Int) (bB:Option Addr) (dB:Nat) (yB:List Int) (hA:Rd w w.heap.size aA (ae xA)) (gA:Rd w w.heap.size bA (ae yA)) (lA:xA.length≤1048576) (mA:yA.length≤1048576) (hB:Rd w w.heap.size aB (ae xB)) (gB:Rd w w.heap.size bB (ae yB)) (lB:xB.length≤1048576) (mB:yB.length≤1048576) :
 Calls Tryz.prog 38 #[.agg #[.int .i64 R,.int .i64 C,.slice aA xA.length cA,.slice aB xB.length cB],.agg #[.int .i64 S,.int .i64 D,.slice bA yA.length dA,.slice bB yB.length dB]] w fun e w'=>e=.returned (.bool (fb R C xA xB S D yA yB))∧Below w.heap.size w w':=by
 have LA:=Oi (fun (v:World) (hb:Below w.heap.size w v)=>om v aA bA cA dA xA yA ((hA.below hb (Nat.le_refl _)).mono hb.size) ((gA.below hb (Nat.le_refl _)).mono hb.size) (by omega) (by omega))
 have LB:=Oi (fun (v:World) (hb:Below w.heap.size w v)=>om v aB bB cB dB xB yB ((hB.below hb (Nat.le_refl _)).mono hb.size) ((gB.below hb (Nat.le_refl _)).mono hb.size) (by omega) (by omega))
 clear hA gA hB gB
 cases t1:(R == S) with
 | false =>
   have HF:Hid (fb R C xA xB S D yA yB=false):=by simp [Hid,fb,t1]
   skip
   go_enter Tryz.func38,Tryz.ntmps38;go_wp2_with fail;go_ret;exact ⟨ar HF.out.symm,by first | exact cd w _ _ | exact ag (cd w _ _) _ | exact ag (ag (cd w _ _) _) _⟩
 | true =>
 cases t2:(C == D) with
 | false =>
   have HF:Hid (fb R C xA xB S D yA yB=false):=by simp [Hid,fb,t1,t2]
   skip
   go_enter Tryz.func38,Tryz.ntmps38;go_wp2_with fail;go_ret;exact ⟨ar HF.out.symm,by first | exact cd w _ _ | exact ag (cd w _ _) _ | exact ag (ag (cd w _ _) _) _⟩
 | true =>
 cases u0:decide (xA=yA) with
 | false =>
   rw [u0] at LA;have HF:Hid (fb R C xA xB S D yA yB=false):=by simp only [Hid,fb,t1,t2,u0,Bool.true_and,Bool.false_and]
   clear u0
   go_enter Tryz.func38,Tryz.ntmps38;go_wp2_with fail;refine (LA.out _ ?_).mono ?_
   · first | exact cd w _ _ | exact ag (cd w _ _) _ | exact ag (ag (cd w _ _) _) _
   rintro e w1 ⟨rfl,n0,rfl⟩;go_wp2_with fail;go_ret;exact ⟨ar HF.out.symm,by first | exact cd w _ _ | exact ag (cd w _ _) _ | exact ag (ag (cd w _ _) _) _⟩
 | true =>
 rw [u0] at LA;have HF:Hid (fb R C xA xB S D yA yB=decide (xB=yB)):=by simp only [Hid,fb,t1,t2,u0,Bool.true_and]
 go_enter Tryz.func38,Tryz.ntmps38;go_wp2_with fail;refine (LA.out _ ?_).mono ?_
 · first | exact cd w _ _ | exact ag (cd w _ _) _ | exact ag (ag (cd w _ _) _) _
 rintro e w1 ⟨rfl,n0,rfl⟩;go_wp2_with fail;refine (LB.out _ ?_).mono ?_
 · first | exact cd w _ _ | exact ag (cd w _ _) _ | exact ag (ag (cd w _ _) _) _
 rintro e w1 ⟨rfl,n1,rfl⟩;go_wp2_with fail;go_ret;exact ⟨ar HF.out.symm,by first | exact cd w _ _ | exact ag (cd w _ _) _ | exact ag (ag (cd w _ _) _) _⟩
theorem NT (w:World) (u v:List Value) (t:TypeId):Blk ((w.alloc (.cells u.toArray t)).alloc (.cells v.toArray t)) w.heap.size u t∧Blk ((w.alloc (.cells u.toArray t)).alloc (.cells v.toArray t)) (w.heap.size+1) v t:=by
 refine ⟨(Blk.new w u t).alloc _,?_⟩
 have:=Blk.new (w.alloc (.cells u.toArray t)) v t;simpa using this
end Go.Proofs.YtbknhgapjjaelaaGreatDoor
