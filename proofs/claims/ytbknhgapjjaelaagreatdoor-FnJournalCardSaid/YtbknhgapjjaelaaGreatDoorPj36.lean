/-
  Part 36 of what the proof stands on: lemmas and contracts, each with its conditions ahead of the colon.
-/
import Derived.Test.YtbknhgapjjaelaaGreatDoorPj01
import Derived.Deep.RegionLaw
import Derived.Deep.DeepCutAuto
import Derived.Deep.CutBlock
import Derived.Deep.RegionWith
import Derived.Test.YtbknhgapjjaelaaGreatDoorPj34
import Derived.Test.YtbknhgapjjaelaaGreatDoorPj35
set_option maxRecDepth 100000
set_option maxHeartbeats 32000000
namespace Go.Proofs.YtbknhgapjjaelaaGreatDoor
set_option linter.unusedVariables false
set_option linter.unusedSimpArgs false
open Go.RowKit
def NP (Q:Exit→Act→World→Prop):Exit→Act→World→Prop
 | .normal,a,w=>Q .normal a w
 | _,_,_=>False
theorem Ip (Q:Exit→Act→World→Prop):∀ e a w,NP Q e a w→Q e a w:=fun e a w h=>by
 cases e <;> first | exact h | exact h.elim
theorem KK (wr:World) (bX gR P j k m nV cV:Nat) (aV:Option Addr) (A B V U:Int) (Q:Exit→Act→World→Prop)
 (j0:(0:Int)≤(j:Int)) (j1:(j:Int)<(P:Int)) (m0:(0:Int)≤(m:Int)) (m1:(m:Int)<(P:Int)) (k0:(0:Int)≤(k:Int)) (k1:(k:Int)<(P:Int)) (p6:P≤6)
 (HJ:Hid (∀ v,Below wr.heap.size wr v→v.cell? ⟨bX,0,none⟩=some (.int .i64 P)∧v.cell? ⟨bX,1,none⟩=some (.int .i64 P)∧v.cell? ⟨bX,2,none⟩=some (.slice aV nV cV)∧v.cell? ⟨gR,j,none⟩=some (.int .i64 A)∧v.cell? ⟨gR,m,none⟩=some (.int .i64 B)∧v.frozen? ⟨gR,j,none⟩=false))
 (L1:Hid (∀ v,Below wr.heap.size wr v→Calls Tryz.prog 196 #[.agg #[.int .i64 P,.int .i64 P,.slice aV nV cV],.int .i64 k,.int .i64 j] v fun e w'=>e=.returned (.int .i64 V)∧Below v.heap.size v w'))
 (L2:Hid (∀ v,Below wr.heap.size wr v→Calls Tryz.prog 196 #[.agg #[.int .i64 P,.int .i64 P,.slice aV nV cV],.int .i64 k,.int .i64 m] v fun e w'=>e=.returned (.int .i64 U)∧Below v.heap.size v w'))
 {z0 z1 z3 z4 z5 z6 z7 z8 z13 z14 z15 z16 z17 z18 z19 z20 z21 z22 z23 z24 z25 z26 z27 z28 z29 z30 z31 z32 z33 z34 z35 z36 z37 z38 z39 z40 z41 z42 z43 z44 z45 z46 z69 z70 z71 z72 z73 z74 z75 z76 z77 z78 z79 z80 z81 z82 z83 z84 z85 z86 z87 z88 z89 z90 z91 z92 z93 u47 u48 u49 u50 u51 u52 u53 u54 u55 u56 u57 u58 u59 u60 u61 u62 u63 u64 u65 u66 u67 u68:Value}
 (hQ:∀ (y47 y48 y49 y50 y51 y52 y53 y54 y55 y56 y57 y58 y59 y60 y61 y62 y63 y64 y65 y66 y67 y68:Value) (w1:World) (x:Int),x=max A (IntKind.i64.wrap (IntKind.i64.wrap (B+V) - U))→Below wr.heap.size wr w1→Q .normal ⟨#[z0,z1,.pointer (some ⟨bX,0,none⟩),z3,z4,z5,z6,z7,z8,.slice (some ⟨gR,0,none⟩) P P,.int .i64 j,.int .i64 k,.int .i64 m,z13,z14,z15,z16,z17,z18,z19,z20,z21,z22,z23,z24,z25,z26,z27,z28,z29,z30,z31,z32,z33,z34,z35,z36,z37,z38,z39,z40,z41,z42,z43,z44,z45,z46,y47,y48,y49,y50,y51,y52,y53,y54,y55,y56,y57,y58,y59,y60,y61,y62,y63,y64,y65,y66,y67,y68,z69,z70,z71,z72,z73,z74,z75,z76,z77,z78,z79,z80,z81,z82,z83,z84,z85,z86,z87,z88,z89,z90,z91,z92,z93],[]⟩ (w1.setCell ⟨gR,j,none⟩ (.int .i64 x))) :
 Code.wp Tryz.prog (((Tryz.f135).body.bind (vG 15)).getD .skip) Q ⟨#[z0,z1,.pointer (some ⟨bX,0,none⟩),z3,z4,z5,z6,z7,z8,.slice (some ⟨gR,0,none⟩) P P,.int .i64 j,.int .i64 k,.int .i64 m,z13,z14,z15,z16,z17,z18,z19,z20,z21,z22,z23,z24,z25,z26,z27,z28,z29,z30,z31,z32,z33,z34,z35,z36,z37,z38,z39,z40,z41,z42,z43,z44,z45,z46,u47,u48,u49,u50,u51,u52,u53,u54,u55,u56,u57,u58,u59,u60,u61,u62,u63,u64,u65,u66,u67,u68,z69,z70,z71,z72,z73,z74,z75,z76,z77,z78,z79,z80,z81,z82,z83,z84,z85,z86,z87,z88,z89,z90,z91,z92,z93],[]⟩ wr:=by
 have HQ:=Oi hQ;have HD:=Oi (aq (Below.refl wr.heap.size wr));obtain ⟨q0,q1,q2,q3,q4,q5⟩:=HJ.out wr (Below.refl _ _);clear hQ
 conv=>arg 2;whnf
 refine Code.wp_mono (Ip Q) ?_
 go_region_law
  ((first
    | (go_simp;with_reducible refine (L1.out _ (by first | exact HD.out | exact hBB.out)).mono ?_;rintro e wA ⟨rfl,hbA⟩;dsimp only;have hBA:=Oi (aa (by first | exact HD.out | exact hBB.out) hbA);obtain ⟨qa0,qa1,qa2,qa3,qa4,qa5⟩:=HJ.out _ hBA.out)
    | (go_simp;with_reducible refine (L2.out _ (by first | exact HD.out | exact hBA.out)).mono ?_;rintro e wB ⟨rfl,hbB⟩;dsimp only;have hBB:=Oi (aa (by first | exact HD.out | exact hBA.out) hbB);obtain ⟨qb0,qb1,qb2,qb3,qb4,qb5⟩:=HJ.out _ hBB.out)))
 all_goals first
  | (show Q _ _ _;refine HQ.out _ _ _ _ _ _ _ _ _ _ _ _ _ _ _ _ _ _ _ _ _ _ _ _ ?_ hBB.out;first | rfl | (split <;> omega) | omega)
  | (show Q _ _ _;refine HQ.out _ _ _ _ _ _ _ _ _ _ _ _ _ _ _ _ _ _ _ _ _ _ _ _ ?_ hBA.out;first | rfl | (split <;> omega) | omega)
end Go.Proofs.YtbknhgapjjaelaaGreatDoor
