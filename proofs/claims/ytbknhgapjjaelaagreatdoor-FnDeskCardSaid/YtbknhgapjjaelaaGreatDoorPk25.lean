/-
  Part 25 of what the proof stands on: lemmas and contracts, each with its conditions ahead of the colon.
-/
import Derived.Test.YtbknhgapjjaelaaGreatDoorPk01
import Derived.Test.YtbknhgapjjaelaaGreatDoorPk10
import Derived.Test.YtbknhgapjjaelaaGreatDoorPk11
import Derived.Test.YtbknhgapjjaelaaGreatDoorPk14
import Derived.Test.YtbknhgapjjaelaaGreatDoorPk15
import Derived.Test.YtbknhgapjjaelaaGreatDoorPk22
import Derived.Test.YtbknhgapjjaelaaGreatDoorPk23
import Derived.Test.YtbknhgapjjaelaaGreatDoorPk24
set_option maxRecDepth 100000
set_option maxHeartbeats 16000000
namespace Go.Proofs.YtbknhgapjjaelaaGreatDoor
set_option linter.unusedVariables false
set_option linter.unusedSimpArgs false
open Go.RowKit
def ud (r:Int × Int × List Int × List Int × Bool) (d:DD):Option (DD × List UInt8):=if r.2.2.2.2 then some ({ d with R:=r.1,C:=r.2.1,A:=r.2.2.1,B:=r.2.2.2.1 },li) else none
def rj (r:Int × Int × List Int × List Int × Bool) (d:DD):Option (DD × List UInt8):=if r.2.2.2.2 then some ({ d with U:=r.1,N:=r.2.1,W:=r.2.2.1,K:=r.2.2.2.1 },li) else none
def qB (r:Int × Int × List Int × Bool) (d:DD):Option (DD × List UInt8):=if r.2.2.2 then some ({ d with P:=r.1,T:=r.2.1,V:=r.2.2.1 },li) else none
def py (t:List UInt8) (d:DD):ib:=some (ud (gv bY t) d)
def mq (t:List UInt8) (d:DD):ib:=some (qB (mz bu t) d)
def nH (t:List UInt8) (d:DD):ib:=some (rj (gv ie t) d)
def om (t:List UInt8) (d:DD):ib:=some (match eM t with | none=>none | some ns=>some ({ d with F:=ns },li))
def fb (t:List UInt8) (f:List Int→DD→Option (List UInt8)) (d:DD):ib:=some (match de t with | none=>none | some xs=>(f xs d).map fun s=>(d,s))
theorem FG {t:List UInt8} {ns:List Nat} (h:eM t=some ns):∀ y∈ns,y<4294967296:=(rA h).2.2
theorem In (t:List UInt8) (ht:t.length≤1048576):jr jT t (py t):=by
 intro w b d x lo hlo hlx hE hok hca hB hR0
 try dsimp only
 have hR:DRd w w.heap.size d x:=hR0.mono (Nat.le_of_lt hB.lt);have hts:(bs t).size≤1048576:=by rw [aI];exact ht
 have htl:(bs t).data.toList=t:=cP t;have LG:=Na (rx w hE.tab hE.shp hE.err (bs t) hts);rw [htl] at LG;unfold RetGame at LG;unfold py;generalize gv bY t=r at LG ⊢;obtain ⟨p,q,la,lb,k⟩:=r;have HB:=Na hB;have HLX:=Na hlx;have HLO:=Na hlo;have HR:=Na hR;have HR0:=Na hR0;clear hlx hlo hB hR hR0 hE hok hca ht hts;obtain ⟨s,hs⟩:∃ s:ByteArray,s=bs jT:=⟨_,rfl⟩;have t_game:(s.toList == [103,97,109,101])=true:=by rw [hs,ab];rfl
 rw [← hs];clear hs;obtain ⟨z,hz⟩:∃ z:ByteArray,z=bs t:=⟨_,rfl⟩;rw [← hz] at LG ⊢;clear hz htl
 go_enter Tryz.func99,Tryz.ntmps99;go_wp2_with fail;refine LG.out.mono ?_;rintro e w1 ⟨hb,a2,c2,a3,c3,rfl,ho⟩;obtain ⟨m,hm,o1,o2⟩:=ho;have KB:=HB.out.same hb;have KT:=HR0.out.below hb (Nat.le_of_lt HB.out.lt);obtain ⟨y0,y1,y2,y3,y4,y5,y6,y7,y8,y9,y10,y11⟩:=af KB;have g0:=KB.free 0;have g1:=KB.free 1;have g2:=KB.free 2;have g3:=KB.free 3;have g4:=KB.free 4;have g5:=KB.free 5;have g6:=KB.free 6;have g7:=KB.free 7;have g8:=KB.free 8;have g9:=KB.free 9;have g10:=KB.free 10;have g11:=KB.free 11;have PT:=Na (C6 KB KT p q la a2 c2 lb a3 c3 (ka o1 HB.out.lt hm.2) (ka o2 (Nat.lt_of_lt_of_le HB.out.lt hm.1) (Nat.le_refl _)));have hbb:=Na hb;clear KB KT hb o1 o2 hm;go_wp2_with fail;go_ret3
 cases k with
 | false=>exact PT.out.no hbb.out _
 | true=>exact PT.out.yes hbb.out HLO.out HLX.out li
theorem Cq (t:List UInt8) (ht:t.length≤1048576):jr gD t (mq t):=by
 intro w b d x lo hlo hlx hE hok hca hB hR0
 try dsimp only
 have hR:DRd w w.heap.size d x:=hR0.mono (Nat.le_of_lt hB.lt);have hts:(bs t).size≤1048576:=by rw [aI];exact ht
 have htl:(bs t).data.toList=t:=cP t;have LG:=Na (pD w hE.tab hE.shp hE.err (bs t) hts);rw [htl] at LG;unfold RetValues at LG;unfold mq;generalize mz bu t=r at LG ⊢;obtain ⟨p,q,la,k⟩:=r;have HB:=Na hB;have HLX:=Na hlx;have HLO:=Na hlo;have HR:=Na hR;have HR0:=Na hR0;clear hlx hlo hB hR hR0 hE hok hca ht hts;obtain ⟨s,hs⟩:∃ s:ByteArray,s=bs gD:=⟨_,rfl⟩;have t_game:(s.toList == [103,97,109,101])=false:=by rw [hs,ab];rfl
 have t_values:(s.toList == [118,97,108,117,101,115])=true:=by rw [hs,ab];rfl
 rw [← hs];clear hs;obtain ⟨z,hz⟩:∃ z:ByteArray,z=bs t:=⟨_,rfl⟩;rw [← hz] at LG ⊢;clear hz htl
 go_enter Tryz.func99,Tryz.ntmps99;go_wp2_with fail;refine LG.out.mono ?_;rintro e w1 ⟨hb,a2,c2,rfl,ho⟩;obtain ⟨hm,o1⟩:=ho;have KB:=HB.out.same hb;have KT:=HR0.out.below hb (Nat.le_of_lt HB.out.lt);obtain ⟨y0,y1,y2,y3,y4,y5,y6,y7,y8,y9,y10,y11⟩:=af KB;have g0:=KB.free 0;have g1:=KB.free 1;have g2:=KB.free 2;have g3:=KB.free 3;have g4:=KB.free 4;have g5:=KB.free 5;have g6:=KB.free 6;have g7:=KB.free 7;have g8:=KB.free 8;have g9:=KB.free 9;have g10:=KB.free 10;have g11:=KB.free 11;have PT:=Na (GN KB KT p q la a2 c2 (ka o1 HB.out.lt (Nat.le_refl _)));have hbb:=Na hb;clear KB KT hb o1 hm;go_wp2_with fail;go_ret3
 cases k with
 | false=>exact PT.out.no hbb.out _
 | true=>exact PT.out.yes hbb.out HLO.out HLX.out li
theorem DG (t:List UInt8) (ht:t.length≤1048576):jr iH t (nH t):=by
 intro w b d x lo hlo hlx hE hok hca hB hR0
 try dsimp only
 have hR:DRd w w.heap.size d x:=hR0.mono (Nat.le_of_lt hB.lt);have hts:(bs t).size≤1048576:=by rw [aI];exact ht
 have htl:(bs t).data.toList=t:=cP t;have LG:=Na (qR w hE.tab hE.shp hE.err (bs t) hts);rw [htl] at LG;unfold RetCrowd at LG;unfold nH;generalize gv ie t=r at LG ⊢;obtain ⟨p,q,la,lb,k⟩:=r;have HB:=Na hB;have HLX:=Na hlx;have HLO:=Na hlo;have HR:=Na hR;have HR0:=Na hR0;clear hlx hlo hB hR hR0 hE hok hca ht hts;obtain ⟨s,hs⟩:∃ s:ByteArray,s=bs iH:=⟨_,rfl⟩;have t_game:(s.toList == [103,97,109,101])=false:=by rw [hs,ab];rfl
 have t_values:(s.toList == [118,97,108,117,101,115])=false:=by rw [hs,ab];rfl
 have t_crowd:(s.toList == [99,114,111,119,100])=true:=by rw [hs,ab];rfl
 rw [← hs];clear hs;obtain ⟨z,hz⟩:∃ z:ByteArray,z=bs t:=⟨_,rfl⟩;rw [← hz] at LG ⊢;clear hz htl
 go_enter Tryz.func99,Tryz.ntmps99;go_wp2_with fail;refine LG.out.mono ?_;rintro e w1 ⟨hb,a2,c2,a3,c3,rfl,ho⟩;obtain ⟨m,hm,o1,o2⟩:=ho;have KB:=HB.out.same hb;have KT:=HR0.out.below hb (Nat.le_of_lt HB.out.lt);obtain ⟨y0,y1,y2,y3,y4,y5,y6,y7,y8,y9,y10,y11⟩:=af KB;have g0:=KB.free 0;have g1:=KB.free 1;have g2:=KB.free 2;have g3:=KB.free 3;have g4:=KB.free 4;have g5:=KB.free 5;have g6:=KB.free 6;have g7:=KB.free 7;have g8:=KB.free 8;have g9:=KB.free 9;have g10:=KB.free 10;have g11:=KB.free 11;have PT:=Na (uj KB KT p q la a2 c2 lb a3 c3 (ka o1 HB.out.lt hm.2) (ka o2 (Nat.lt_of_lt_of_le HB.out.lt hm.1) (Nat.le_refl _)));have hbb:=Na hb;clear KB KT hb o1 o2 hm;go_wp2_with fail;go_ret3
 cases k with
 | false=>exact PT.out.no hbb.out _
 | true=>exact PT.out.yes hbb.out HLO.out HLX.out li
theorem Dy (t:List UInt8) (ht:t.length≤1048576):jr iF t (om t):=by
 intro w b d x lo hlo hlx hE hok hca hB hR0
 try dsimp only
 have hR:DRd w w.heap.size d x:=hR0.mono (Nat.le_of_lt hB.lt);have hts:(bs t).size≤1048576:=by rw [aI];exact ht
 have htl:(bs t).data.toList=t:=cP t;have LG:=Na (ox w hE.bit hE.shp hE.err (bs t) hts);rw [htl] at LG;unfold vb at LG;unfold om;have HN:Hid (∀ ns,eM t=some ns→∀ y∈ns,y<4294967296):=fun ns h=>FG h
 generalize eM t=r at LG HN ⊢;have HB:=Na hB;have HLX:=Na hlx;have HLO:=Na hlo;have HR:=Na hR;have HR0:=Na hR0;clear hlx hlo hB hR hR0 hE hok hca ht hts;obtain ⟨s,hs⟩:∃ s:ByteArray,s=bs iF:=⟨_,rfl⟩;have t_game:(s.toList == [103,97,109,101])=false:=by rw [hs,ab];rfl
 have t_values:(s.toList == [118,97,108,117,101,115])=false:=by rw [hs,ab];rfl
 have t_crowd:(s.toList == [99,114,111,119,100])=false:=by rw [hs,ab];rfl
 have t_turns:(s.toList == [116,117,114,110,115])=true:=by rw [hs,ab];rfl
 rw [← hs];clear hs;obtain ⟨z,hz⟩:∃ z:ByteArray,z=bs t:=⟨_,rfl⟩;rw [← hz] at LG ⊢;clear hz htl
 go_enter Tryz.func99,Tryz.ntmps99;go_wp2_with fail;refine LG.out.mono ?_
 cases r with
 | none =>
   rintro e w1 ⟨hb,rfl⟩;have KB:=HB.out.same hb;have KT:=HR0.out.below hb (Nat.le_of_lt HB.out.lt);obtain ⟨y0,y1,y2,y3,y4,y5,y6,y7,y8,y9,y10,y11⟩:=af KB;have g0:=KB.free 0;have g1:=KB.free 1;have g2:=KB.free 2;have g3:=KB.free 3;have g4:=KB.free 4;have g5:=KB.free 5;have g6:=KB.free 6;have g7:=KB.free 7;have g8:=KB.free 8;have g9:=KB.free 9;have g10:=KB.free 10;have g11:=KB.free 11;have PT:=Na (pZ KB KT [] none 0 (qM _ _) (fun y hy=>by cases hy))
   have hbb:=Na hb;rw [List.length_nil] at PT;clear KB KT hb;go_wp2_with fail;go_ret3;exact PT.out.no hbb.out _
 | some ns =>
   rintro e w1 ⟨hb,a,c,rfl,ho⟩;have KB:=HB.out.same hb;have KT:=HR0.out.below hb (Nat.le_of_lt HB.out.lt);obtain ⟨y0,y1,y2,y3,y4,y5,y6,y7,y8,y9,y10,y11⟩:=af KB;have g0:=KB.free 0;have g1:=KB.free 1;have g2:=KB.free 2;have g3:=KB.free 3;have g4:=KB.free 4;have g5:=KB.free 5;have g6:=KB.free 6;have g7:=KB.free 7;have g8:=KB.free 8;have g9:=KB.free 9;have g10:=KB.free 10;have g11:=KB.free 11;have PT:=Na (pZ KB KT ns a c (xI (OwnF.of_own ho) HB.out.lt (Nat.le_refl _)) (HN.out ns rfl));have hbb:=Na hb;clear KB KT hb ho;go_wp2_with fail;go_ret3;exact PT.out.yes hbb.out HLO.out HLX.out li
theorem If {t:List UInt8} (ht:t.length≤1048576) {f:List Int→DD→Option (List UInt8)} (HF:∀ xs:List Int,xs.length≤64→oU mK xs (f xs)):jr mK t (fb t f):=by
 intro w b d x lo hlo hlx hE hok hca hB hR0;have hR:DRd w w.heap.size d x:=hR0.mono (Nat.le_of_lt hB.lt);have hts:(bs t).size≤1048576:=by rw [aI];exact ht
 have htl:(bs t).data.toList=t:=cP t;have LG:=Na (gK w hE.tab hE.shp hE.err (bs t) hts);rw [htl] at LG;unfold wn at LG;unfold fb;have HN:Hid (∀ ns,de t=some ns→ns.length≤64):=fun ns h=>kp h
 have LF:=Na (fun (xs:List Int) (hx:xs.length≤64) (w1:World) (hb:Below w.heap.size w w1) (a:Option Addr) (c:Nat) (h:Rd w1 w1.heap.size a (ae xs))=>HF xs hx w1 b d x a c (hE.to hb) hok (hB.same hb) (hR.to hb) h)
 generalize de t=r at LG HN ⊢;have HB:=Na hB;have HLX:=Na hlx;have HLO:=Na hlo;have HR:=Na hR;clear hlx hlo hB hR hR0 hE hok hca ht hts HF;obtain ⟨s,hs⟩:∃ s:ByteArray,s=bs mK:=⟨_,rfl⟩;have t_game:(s.toList == [103,97,109,101])=false:=by rw [hs,ab];rfl
 have t_values:(s.toList == [118,97,108,117,101,115])=false:=by rw [hs,ab];rfl
 have t_crowd:(s.toList == [99,114,111,119,100])=false:=by rw [hs,ab];rfl
 have t_turns:(s.toList == [116,117,114,110,115])=false:=by rw [hs,ab];rfl
 have t_learn:(s.toList == [108,101,97,114,110])=false:=by rw [hs,ab];rfl
 have t_rent:(s.toList == [114,101,110,116])=false:=by rw [hs,ab];rfl
 have t_take:(s.toList == [116,97,107,101])=true:=by rw [hs,ab];rfl
 rw [← hs] at LF ⊢;clear hs;obtain ⟨z,hz⟩:∃ z:ByteArray,z=bs t:=⟨_,rfl⟩;rw [← hz] at LG ⊢;clear hz htl
 go_enter Tryz.func99,Tryz.ntmps99;go_wp2_with fail;refine LG.out.mono ?_
 cases r with
 | none =>
   rintro e w1 ⟨hb,rfl⟩;have hbb:=Na hb;clear hb LF;go_wp2_with fail;go_ret3;exact RetAl.no _ (Below.touch hbb.out _ _)
 | some xs =>
   rintro e w1 ⟨hb,g,c,rfl,ho⟩;have L:=Na (LF.out xs (HN.out xs rfl) w1 hb _ c (ay ho (Nat.le_refl _)));have hbb:=Na hb;clear hb ho LF HN;obtain ⟨ft,hft⟩:∃ y,y=f xs d:=⟨_,rfl⟩;rw [← hft] at L;have HT:=Na hft;clear hft;go_wp2_with fail;refine L.out.mono ?_;rintro e w2 ⟨hb2,u,rfl,hu⟩;have HU:=Na hu;have HB2:=Na hb2;clear hu hb2;go_wp2_with fail;go_ret3;have e:=HT.out;subst e;exact RetAl.textN (f xs d) (aa hbb.out HB2.out) HB.out HR.out HLX.out HU.out
theorem GF {t:List UInt8} (ht:t.length≤1048576) {f:List Int→DD→Option (List UInt8)} (HF:∀ xs:List Int,xs.length≤64→oU mR xs (f xs)):jr mR t (fb t f):=by
 intro w b d x lo hlo hlx hE hok hca hB hR0;have hR:DRd w w.heap.size d x:=hR0.mono (Nat.le_of_lt hB.lt);have hts:(bs t).size≤1048576:=by rw [aI];exact ht
 have htl:(bs t).data.toList=t:=cP t;have LG:=Na (gK w hE.tab hE.shp hE.err (bs t) hts);rw [htl] at LG;unfold wn at LG;unfold fb;have HN:Hid (∀ ns,de t=some ns→ns.length≤64):=fun ns h=>kp h
 have LF:=Na (fun (xs:List Int) (hx:xs.length≤64) (w1:World) (hb:Below w.heap.size w w1) (a:Option Addr) (c:Nat) (h:Rd w1 w1.heap.size a (ae xs))=>HF xs hx w1 b d x a c (hE.to hb) hok (hB.same hb) (hR.to hb) h)
 generalize de t=r at LG HN ⊢;have HB:=Na hB;have HLX:=Na hlx;have HLO:=Na hlo;have HR:=Na hR;clear hlx hlo hB hR hR0 hE hok hca ht hts HF;obtain ⟨s,hs⟩:∃ s:ByteArray,s=bs mR:=⟨_,rfl⟩;have t_game:(s.toList == [103,97,109,101])=false:=by rw [hs,ab];rfl
 have t_values:(s.toList == [118,97,108,117,101,115])=false:=by rw [hs,ab];rfl
 have t_crowd:(s.toList == [99,114,111,119,100])=false:=by rw [hs,ab];rfl
 have t_turns:(s.toList == [116,117,114,110,115])=false:=by rw [hs,ab];rfl
 have t_learn:(s.toList == [108,101,97,114,110])=false:=by rw [hs,ab];rfl
 have t_rent:(s.toList == [114,101,110,116])=false:=by rw [hs,ab];rfl
 have t_take:(s.toList == [116,97,107,101])=false:=by rw [hs,ab];rfl
 have t_envy:(s.toList == [101,110,118,121])=true:=by rw [hs,ab];rfl
 rw [← hs] at LF ⊢;clear hs;obtain ⟨z,hz⟩:∃ z:ByteArray,z=bs t:=⟨_,rfl⟩;rw [← hz] at LG ⊢;clear hz htl
 go_enter Tryz.func99,Tryz.ntmps99;go_wp2_with fail;refine LG.out.mono ?_
 cases r with
 | none =>
   rintro e w1 ⟨hb,rfl⟩;have hbb:=Na hb;clear hb LF;go_wp2_with fail;go_ret3;exact RetAl.no _ (Below.touch hbb.out _ _)
 | some xs =>
   rintro e w1 ⟨hb,g,c,rfl,ho⟩;have L:=Na (LF.out xs (HN.out xs rfl) w1 hb _ c (ay ho (Nat.le_refl _)));have hbb:=Na hb;clear hb ho LF HN;obtain ⟨ft,hft⟩:∃ y,y=f xs d:=⟨_,rfl⟩;rw [← hft] at L;have HT:=Na hft;clear hft;go_wp2_with fail;refine L.out.mono ?_;rintro e w2 ⟨hb2,u,rfl,hu⟩;have HU:=Na hu;have HB2:=Na hb2;clear hu hb2;go_wp2_with fail;go_ret3;have e:=HT.out;subst e;exact RetAl.textN (f xs d) (aa hbb.out HB2.out) HB.out HR.out HLX.out HU.out
theorem GW {t:List UInt8} (ht:t.length≤1048576) {f:List Int→DD→Option (List UInt8)} (HF:∀ xs:List Int,xs.length≤64→oU nf xs (f xs)):jr nf t (fb t f):=by
 intro w b d x lo hlo hlx hE hok hca hB hR0;have hR:DRd w w.heap.size d x:=hR0.mono (Nat.le_of_lt hB.lt);have hts:(bs t).size≤1048576:=by rw [aI];exact ht
 have htl:(bs t).data.toList=t:=cP t;have LG:=Na (gK w hE.tab hE.shp hE.err (bs t) hts);rw [htl] at LG;unfold wn at LG;unfold fb;have HN:Hid (∀ ns,de t=some ns→ns.length≤64):=fun ns h=>kp h
 have LF:=Na (fun (xs:List Int) (hx:xs.length≤64) (w1:World) (hb:Below w.heap.size w w1) (a:Option Addr) (c:Nat) (h:Rd w1 w1.heap.size a (ae xs))=>HF xs hx w1 b d x a c (hE.to hb) hok (hB.same hb) (hR.to hb) h)
 generalize de t=r at LG HN ⊢;have HB:=Na hB;have HLX:=Na hlx;have HLO:=Na hlo;have HR:=Na hR;clear hlx hlo hB hR hR0 hE hok hca ht hts HF;obtain ⟨s,hs⟩:∃ s:ByteArray,s=bs nf:=⟨_,rfl⟩;have t_game:(s.toList == [103,97,109,101])=false:=by rw [hs,ab];rfl
 have t_values:(s.toList == [118,97,108,117,101,115])=false:=by rw [hs,ab];rfl
 have t_crowd:(s.toList == [99,114,111,119,100])=false:=by rw [hs,ab];rfl
 have t_turns:(s.toList == [116,117,114,110,115])=false:=by rw [hs,ab];rfl
 have t_learn:(s.toList == [108,101,97,114,110])=false:=by rw [hs,ab];rfl
 have t_rent:(s.toList == [114,101,110,116])=false:=by rw [hs,ab];rfl
 have t_take:(s.toList == [116,97,107,101])=false:=by rw [hs,ab];rfl
 have t_envy:(s.toList == [101,110,118,121])=false:=by rw [hs,ab];rfl
 have t_rest:(s.toList == [114,101,115,116])=true:=by rw [hs,ab];rfl
 rw [← hs] at LF ⊢;clear hs;obtain ⟨z,hz⟩:∃ z:ByteArray,z=bs t:=⟨_,rfl⟩;rw [← hz] at LG ⊢;clear hz htl
 go_enter Tryz.func99,Tryz.ntmps99;go_wp2_with fail;refine LG.out.mono ?_
 cases r with
 | none =>
   rintro e w1 ⟨hb,rfl⟩;have hbb:=Na hb;clear hb LF;go_wp2_with fail;go_ret3;exact RetAl.no _ (Below.touch hbb.out _ _)
 | some xs =>
   rintro e w1 ⟨hb,g,c,rfl,ho⟩;have L:=Na (LF.out xs (HN.out xs rfl) w1 hb _ c (ay ho (Nat.le_refl _)));have hbb:=Na hb;clear hb ho LF HN;obtain ⟨ft,hft⟩:∃ y,y=f xs d:=⟨_,rfl⟩;rw [← hft] at L;have HT:=Na hft;clear hft;go_wp2_with fail;refine L.out.mono ?_;rintro e w2 ⟨hb2,u,rfl,hu⟩;have HU:=Na hu;have HB2:=Na hb2;clear hu hb2;go_wp2_with fail;go_ret3;have e:=HT.out;subst e;exact RetAl.textN (f xs d) (aa hbb.out HB2.out) HB.out HR.out HLX.out HU.out
theorem EG {t:List UInt8} (ht:t.length≤1048576) {f:List Int→DD→Option (List UInt8)} (HF:∀ xs:List Int,xs.length≤64→oU le xs (f xs)):jr le t (fb t f):=by
 intro w b d x lo hlo hlx hE hok hca hB hR0;have hR:DRd w w.heap.size d x:=hR0.mono (Nat.le_of_lt hB.lt);have hts:(bs t).size≤1048576:=by rw [aI];exact ht
 have htl:(bs t).data.toList=t:=cP t;have LG:=Na (gK w hE.tab hE.shp hE.err (bs t) hts);rw [htl] at LG;unfold wn at LG;unfold fb;have HN:Hid (∀ ns,de t=some ns→ns.length≤64):=fun ns h=>kp h
 have LF:=Na (fun (xs:List Int) (hx:xs.length≤64) (w1:World) (hb:Below w.heap.size w w1) (a:Option Addr) (c:Nat) (h:Rd w1 w1.heap.size a (ae xs))=>HF xs hx w1 b d x a c (hE.to hb) hok (hB.same hb) (hR.to hb) h)
 generalize de t=r at LG HN ⊢;have HB:=Na hB;have HLX:=Na hlx;have HLO:=Na hlo;have HR:=Na hR;clear hlx hlo hB hR hR0 hE hok hca ht hts HF;obtain ⟨s,hs⟩:∃ s:ByteArray,s=bs le:=⟨_,rfl⟩;have t_game:(s.toList == [103,97,109,101])=false:=by rw [hs,ab];rfl
 have t_values:(s.toList == [118,97,108,117,101,115])=false:=by rw [hs,ab];rfl
 have t_crowd:(s.toList == [99,114,111,119,100])=false:=by rw [hs,ab];rfl
 have t_turns:(s.toList == [116,117,114,110,115])=false:=by rw [hs,ab];rfl
 have t_learn:(s.toList == [108,101,97,114,110])=false:=by rw [hs,ab];rfl
 have t_rent:(s.toList == [114,101,110,116])=false:=by rw [hs,ab];rfl
 have t_take:(s.toList == [116,97,107,101])=false:=by rw [hs,ab];rfl
 have t_envy:(s.toList == [101,110,118,121])=false:=by rw [hs,ab];rfl
 have t_rest:(s.toList == [114,101,115,116])=false:=by rw [hs,ab];rfl
 have t_total:(s.toList == [116,111,116,97,108])=true:=by rw [hs,ab];rfl
 rw [← hs] at LF ⊢;clear hs;obtain ⟨z,hz⟩:∃ z:ByteArray,z=bs t:=⟨_,rfl⟩;rw [← hz] at LG ⊢;clear hz htl
 go_enter Tryz.func99,Tryz.ntmps99;go_wp2_with fail;refine LG.out.mono ?_
 cases r with
 | none =>
   rintro e w1 ⟨hb,rfl⟩;have hbb:=Na hb;clear hb LF;go_wp2_with fail;go_ret3;exact RetAl.no _ (Below.touch hbb.out _ _)
 | some xs =>
   rintro e w1 ⟨hb,g,c,rfl,ho⟩;have L:=Na (LF.out xs (HN.out xs rfl) w1 hb _ c (ay ho (Nat.le_refl _)));have hbb:=Na hb;clear hb ho LF HN;obtain ⟨ft,hft⟩:∃ y,y=f xs d:=⟨_,rfl⟩;rw [← hft] at L;have HT:=Na hft;clear hft;go_wp2_with fail;refine L.out.mono ?_;rintro e w2 ⟨hb2,u,rfl,hu⟩;have HU:=Na hu;have HB2:=Na hb2;clear hu hb2;go_wp2_with fail;go_ret3;have e:=HT.out;subst e;exact RetAl.textN (f xs d) (aa hbb.out HB2.out) HB.out HR.out HLX.out HU.out
def nD (b:UInt8):Prop:=b=45∨(48≤b.toNat∧b.toNat≤57)
theorem xy:∀ (u:Nat) (b:UInt8),b∈Lib.decDigits u→48≤b.toNat∧b.toNat≤57:=by
 intro u
 induction u using Nat.strongRecOn with
 | ind u ih =>
   intro b hb;rw [Lib.decDigits] at hb
   split at hb
   · rename_i h
     rw [List.mem_singleton] at hb;rw [hb,gY u h];omega
   · rcases List.mem_append.1 hb with h | h
     · exact ih (u / 10) (by omega) b h
     · rw [List.mem_singleton] at h
       rw [h,gY (u % 10) (by omega)];omega
theorem jl {n:Int} {b:UInt8} (h:b∈Lib.itoa n):nD b:=by
 rcases Int.lt_or_le n 0 with h0 | h0
 · rw [sE h0] at h
   rcases List.mem_cons.1 h with rfl | h
   · exact .inl rfl
   · exact .inr (xy _ _ h)
 · rw [qm h0] at h
   exact .inr (xy _ _ h)
theorem CU (n:Int):Lib.itoa n≠[]:=by
 intro h
 rcases Int.lt_or_le n 0 with h0 | h0
 · rw [sE h0] at h;cases h
 · rw [qm h0] at h
   have:=si n.toNat;rw [h] at this;simp at this
theorem lI {c:UInt8}:∀ (x:List UInt8) (r:List (List UInt8)),(∀ y∈x :: r,c∉y)→co c (Lib.join (x :: r) [c])=x :: r
 | x,[],h=>by rw [Lib.join_one];exact pd (h x (by simp))
 | x,y :: r,h=>by
   have e:Lib.join (x :: y :: r) [c]=x ++ c :: Lib.join (y :: r) [c]:=by
    rw [Lib.join_cons,Lib.join_cons];simp [Lib.joinTail]
   rw [e,qk (h x (by simp)),lI y r (fun z hz=>h z (List.mem_cons_of_mem _ hz))]
theorem qN {b:UInt8} {c:UInt8}:∀ (xs:List (List UInt8)),b∈Lib.join xs [c]→b=c∨∃ x∈xs,b∈x
 | [],h=>by rw [Lib.join_nil] at h;cases h
 | x :: r,h=>by
   rw [Lib.join_cons] at h
   rcases List.mem_append.1 h with h | h
   · exact .inr ⟨x,by simp,h⟩
   · unfold Lib.joinTail at h
     obtain ⟨l,hl,hb⟩:=List.mem_flatten.1 h;obtain ⟨y,hy,rfl⟩:=List.mem_map.1 hl
     rcases List.mem_append.1 hb with hb | hb
     · rw [List.mem_singleton] at hb;exact .inl hb
     · exact .inr ⟨y,List.mem_cons_of_mem _ hy,hb⟩
theorem CD {xs:List Int} {b:UInt8} (h:b∈az xs):nD b∨b=44∨b=110∨b=111∨b=101:=by
 unfold az at h
 by_cases he:xs=[]
 · rw [if_pos he] at h
   have key:∀ c:UInt8,c∈([110,111,110,101]:List UInt8)→nD c∨c=44∨c=110∨c=111∨c=101:=fun c hc=>by
    simp only [List.mem_cons,List.not_mem_nil,or_false] at hc
    rcases hc with rfl | rfl | rfl | rfl <;> simp
   exact key b h
 · rw [if_neg he] at h
   rcases qN _ h with h | ⟨x,hx,hb⟩
   · exact .inr (.inl h)
   · obtain ⟨n,_,rfl⟩:=List.mem_map.1 hx
     exact .inl (jl hb)
theorem kr {b:UInt8} {c:UInt8} (h:nD b) (h1:c≠45) (h2:c.toNat<48∨57<c.toNat):b≠c:=by
 rintro rfl
 rcases h with h | h
 · exact h1 h
 · omega
theorem Jy (xs:List Int):dJ (az xs)=xs.map Lib.itoa:=by
 cases xs with
 | nil=>rfl
 | cons x r =>
   have e:az (x :: r)=Lib.join (Lib.itoa x :: r.map Lib.itoa) [44]:=by unfold az;rw [if_neg (by simp)];rfl
   have hne:az (x :: r)≠lJ:=by
    intro h;have h1:(110:UInt8)∈az (x :: r):=by rw [h];simp [lJ]
    rw [e] at h1
    rcases qN _ h1 with h2 | ⟨y,hy,hb⟩
    · exact absurd h2 (by decide)
    · have:∃ n,y=Lib.itoa n:=by
        rcases List.mem_cons.1 hy with rfl | hy
        · exact ⟨x,rfl⟩
        · obtain ⟨n,_,rfl⟩:=List.mem_map.1 hy
          exact ⟨n,rfl⟩
      obtain ⟨n,rfl⟩:=this;exact kr (jl hb) (c:=110) (by decide) (by decide) rfl
   unfold dJ;rw [if_neg hne,e,lI]
   · rfl
   · intro y hy hm
     have:∃ n,y=Lib.itoa n:=by
      rcases List.mem_cons.1 hy with rfl | hy
      · exact ⟨x,rfl⟩
      · obtain ⟨n,_,rfl⟩:=List.mem_map.1 hy
        exact ⟨n,rfl⟩
     obtain ⟨n,rfl⟩:=this;exact kr (jl hm) (c:=44) (by decide) (by decide) rfl
theorem JB {xs:List Int} (h:∀ x∈xs,-jz≤x∧x≤jz):di eg (xs.map Lib.itoa)=some xs:=by
 induction xs with
 | nil=>rfl
 | cons x r ih =>
   have hx:=h x (by simp)
   rw [List.map_cons,je (xF hx.1 hx.2),ih (fun y hy=>h y (List.mem_cons_of_mem _ hy))];rfl
theorem G7 {xs:List Int} (h:bq xs=true):de (az xs)=some xs:=by
 unfold bq at h;rw [Bool.and_eq_true,eG,decide_eq_true_eq] at h;refine uZ (ns:=xs) ?_ h.2
 rw [Jy,JB (fun x hx=>by have:=h.1 x hx;unfold jz;omega)]
theorem KL {xs:List Int} {c:UInt8} (h:c=59∨c=32∨c=10):c∉az xs:=by
 intro hm
 rcases CD hm with h1 | h1 | h1 | h1 | h1
 · rcases h with rfl | rfl | rfl
   · exact kr h1 (by decide) (by decide) rfl
   · exact kr h1 (by decide) (by decide) rfl
   · exact kr h1 (by decide) (by decide) rfl
 all_goals (rcases h with rfl | rfl | rfl <;> exact absurd h1 (by decide))
theorem xm {x:List Int} {r:List (List Int)}:co 59 (aJ (x :: r))=(x :: r).map az:=by
 unfold aJ;rw [List.map_cons,lI];intro y hy;have:∃ n,y=az n:=by
  rcases List.mem_cons.1 hy with rfl | hy
  · exact ⟨x,rfl⟩
  · obtain ⟨n,_,rfl⟩:=List.mem_map.1 hy
    exact ⟨n,rfl⟩
 obtain ⟨n,rfl⟩:=this;exact KL (.inl rfl)
theorem rg:∀ {xss:List (List Int)},(∀ x∈xss,bq x=true)→di de (xss.map az)=some xss
 | [],_=>rfl
 | x :: r,h=>by rw [List.map_cons,je (G7 (h x (by simp))),rg (fun y hy=>h y (List.mem_cons_of_mem _ hy))];rfl
theorem ta {p q:Int} {x2 x3:List Int} (ok:∀ x∈[[p,q],x2,x3],bq x=true):es 3 (aJ [[p,q],x2,x3])=some [[p,q],x2,x3]:=by
 rw [lP (yss:=[[p,q],x2,x3]) (by rw [xm,rg ok])];rfl
theorem Bl {p q:Int} {x2:List Int} (ok:∀ x∈[[p,q],x2],bq x=true):es 2 (aJ [[p,q],x2])=some [[p,q],x2]:=by
 rw [lP (yss:=[[p,q],x2]) (by rw [xm,rg ok])];rfl
theorem yD {R C:Int} {A B:List Int} (h:bY R C A B=true):gv bY (aJ [[R,C],A,B])=(R,C,A,B,true):=by
 rw [ml (ta (sn h)),if_pos h]
theorem uB {P T:Int} {V:List Int} (h:bu P T V=true):mz bu (aJ [[P,T],V])=(P,T,V,true):=by
 rw [rZ (Bl (oy h)),if_pos h]
theorem IK {V:Int→Int→List Int→List Int→Bool} {p q:Int} {x2 x3:List Int} (ok:∀ x∈[[p,q],x2,x3],bq x=true) (h:V p q x2 x3=true):gv V (aJ [[p,q],x2,x3])=(p,q,x2,x3,true):=by
 rw [ml (ta ok),if_pos h]
theorem CL {x:Nat} {c:UInt8} (h1:c.toNat<48∨(57<c.toNat∧c.toNat<97)∨102<c.toNat):c∉db x:=by
 intro hm
 rcases tZ hm with h | h <;> omega
theorem GQ (xs:List Nat):dJ (ba xs)=xs.map db:=by
 cases xs with
 | nil=>rfl
 | cons x r =>
   have e:ba (x :: r)=Lib.join (db x :: r.map db) [44]:=by unfold ba;rw [if_neg (by simp)];rfl
   have hall:∀ y∈db x :: r.map db,∃ n,y=db n:=fun y hy=>by
    rcases List.mem_cons.1 hy with rfl | hy
    · exact ⟨x,rfl⟩
    · obtain ⟨n,_,rfl⟩:=List.mem_map.1 hy
      exact ⟨n,rfl⟩
   have hne:ba (x :: r)≠lJ:=by
    intro h;have h1:(110:UInt8)∈ba (x :: r):=by rw [h];simp [lJ]
    rw [e] at h1
    rcases qN _ h1 with h2 | ⟨y,hy,hb⟩
    · exact absurd h2 (by decide)
    · obtain ⟨n,rfl⟩:=hall y hy
      exact CL (c:=110) (by decide) hb
   unfold dJ;rw [if_neg hne,e,lI]
   · rfl
   · intro y hy hm
     obtain ⟨n,rfl⟩:=hall y hy;exact CL (c:=44) (by decide) hm
theorem AK:∀ {xs:List Nat},(∀ x∈xs,x<4294967296)→di lf (xs.map db)=some (xs.map bz)
 | [],_=>rfl
 | x :: r,h=>by
   have hx:lf (db x)=some (bz x):=by
    rw [xg (kj x)];unfold db;rw [Lk (uq (h x (by simp)))]
   rw [List.map_cons,je hx,AK (fun y hy=>h y (List.mem_cons_of_mem _ hy))];rfl
theorem FI (x:Nat):db (bz x)=db x:=by unfold db;rw [Cw]
theorem Dq (xs:List Nat):ba (xs.map bz)=ba xs:=by
 unfold ba
 by_cases h:xs=[]
 · subst h;rfl
 · rw [if_neg h,if_neg (by simpa using h),List.map_map]
   congr 1
   exact List.map_congr_left fun x _=>FI x
theorem zU {xs:List Nat} (h:xs.length≤256) (hlt:∀ x∈xs,x<4294967296):eM (ba xs)=some (xs.map bz):=by
 rw [jL (xs:=xs.map bz) (by rw [GQ,AK hlt]),if_pos ⟨by rw [List.length_map];exact h,Dq xs⟩]
theorem K7 {c:UInt8} {w:List UInt8} (h:c∉w):co c w=[w]:=by
 have:=lI (c:=c) w [] (fun y hy=>by rcases List.mem_cons.1 hy with rfl | hy;exact h;cases hy)
 rwa [Lib.join_one] at this
def bP (ls:List (List UInt8)):List UInt8:=(ls.map (· ++ [10])).flatten
theorem qG (l:List UInt8) (ls:List (List UInt8)):bP (l :: ls)=l ++ 10 :: bP ls:=by simp [bP]
theorem vC:∀ (l:List UInt8) (ls:List (List UInt8)),Lib.join (l :: (ls ++ [[]])) [10]=l ++ 10 :: bP ls
 | l,[]=>by rw [List.nil_append,Lib.join_cons];simp [Lib.joinTail,bP]
 | l,m :: ls=>by
   have ih:=vC m ls;rw [Lib.join_cons] at ih;rw [List.cons_append,Lib.join_cons,Lib.joinTail,List.map_cons,List.flatten_cons,qG,← ih];simp [Lib.joinTail]
theorem II {ls:List (List UInt8)} (h:∀ l∈ls,(10:UInt8)∉l):co 10 (bP ls)=ls ++ [[]]:=by
 cases ls with
 | nil=>exact K7 (by simp [bP])
 | cons l ls =>
   rw [qG,← vC,← List.cons_append];refine lI (c:=10) l (ls ++ [[]]) (fun y hy=>?_)
   rcases List.mem_cons.1 hy with rfl | hy
   · exact h _ (by simp)
   · rcases List.mem_append.1 hy with hy | hy
     · exact h y (by simp [hy])
     · simp at hy;subst hy;simp
theorem tr {ls:List (List UInt8)} (h:∀ l∈ls,(10:UInt8)∉l):eR (bP ls)=ls∧lg (bP ls)=[]:=by
 have e:=wQ (bP ls);rw [II h] at e;have e2:=List.append_inj' e.symm rfl;exact ⟨e2.1,by have:=e2.2;simpa using this⟩
theorem xh (ls:List (List UInt8)):(bP ls).length=Lib.lens ls+ls.length:=by
 induction ls with
 | nil=>rfl
 | cons l ls ih=>rw [qG,List.length_append,List.length_cons,ih];simp [Lib.lens];omega
theorem BS (xs:List Int):az xs=[110,111,110,101]∨∃ b r,az xs=b :: r∧nD b:=by
 unfold az
 split
 · exact .inl rfl
 · right
   cases xs with
   | nil=>simp_all
   | cons x r =>
     rw [List.map_cons,Lib.join_cons];have hz:=CU x;have hb:=fun b=>jl (n:=x) (b:=b)
     generalize Lib.itoa x=l at hz hb
     cases l with
     | nil=>exact absurd rfl hz
     | cons b l=>exact ⟨b,_,rfl,hb b (by simp)⟩
theorem qX {b:UInt8} (h:nD b):b≠110∧b≠119∧b≠10:=⟨kr h (by decide) (by decide),kr h (by decide) (by decide),kr h (by decide) (by decide)⟩
theorem rL {b:UInt8} {r:List UInt8} (h:b≠110) (h2:b≠119):fQ (b :: r)=false:=by
 unfold fQ;rw [Bool.or_eq_false_iff,decide_eq_false_iff_not,decide_eq_false_iff_not];exact ⟨fun e=>h (by injection e),fun e=>h2 (by injection e)⟩
theorem zO (r:List UInt8):fQ (110 :: 111 :: 110 :: 101 :: r)=false:=by
 unfold fQ;rw [Bool.or_eq_false_iff,decide_eq_false_iff_not,decide_eq_false_iff_not];exact ⟨fun e=>by simp at e,fun e=>by simp at e⟩
theorem yd (xs:List Int) (r:List UInt8):fQ (az xs ++ r)=false:=by
 rcases BS xs with h | ⟨b,l,h,hb⟩
 · rw [h];exact zO r
 · rw [h];exact rL (qX hb).1 (qX hb).2.1
theorem Eb (x:List Int) (r:List (List Int)):fQ (aJ (x :: r))=false:=by
 unfold aJ;rw [List.map_cons,Lib.join_cons];exact yd x _
theorem F1 (n:Int):fQ (Lib.itoa n)=false:=by
 have hz:=CU n;have hb:=fun b=>jl (n:=n) (b:=b)
 generalize Lib.itoa n=l at hz hb
 cases l with
 | nil=>exact absurd rfl hz
 | cons b l=>exact rL (qX (hb b (by simp))).1 (qX (hb b (by simp))).2.1
theorem FC (xs:List Nat):fQ (ba xs)=false:=by
 unfold ba
 split
 · exact zO []
 · cases xs with
   | nil=>simp_all
   | cons x r =>
     rw [List.map_cons,Lib.join_cons];have hl:=kj x;have hb:=fun b=>tZ (x:=x) (b:=b)
     generalize db x=l at hl hb
     cases l with
     | nil=>simp at hl
     | cons b l =>
       have:=hb b (by simp)
       refine rL (fun e=>?_) (fun e=>?_)
       · subst e;revert this;decide
       · subst e;revert this;decide
theorem mg (n:Int):(10:UInt8)∉Lib.itoa n:=fun h=>(qX (jl h)).2.2 rfl
theorem dj {xs:List Int} (h:bq xs=true):(az xs).length≤22 * xs.length+4:=by
 unfold bq at h;rw [Bool.and_eq_true,eG] at h;exact oz (fun x hx=>by have:=h.1 x hx;omega)
theorem se {xs:List Int} (h:bq xs=true):xs.length≤64:=by
 unfold bq at h;rw [Bool.and_eq_true,decide_eq_true_eq] at h;exact h.2
theorem zG {xss:List (List Int)} (h:∀ x∈xss,bq x=true):(aJ xss).length≤1413 * xss.length:=by
 unfold aJ;have:=km (m:=1412) (xs:=xss.map az) (sep:=[59]) (fun x hx=>by
  obtain ⟨y,hy,rfl⟩:=List.mem_map.1 hx;have h1:=dj (h y hy);have h2:=se (h y hy)
  omega)
 simpa using this
theorem vh (x y:List Int):(aJ [x,y]).length=(az x).length+1+(az y).length:=by
 simp [aJ,Lib.join_cons,Lib.joinTail];omega
theorem kW (x y z:List Int):(aJ [x,y,z]).length=(az x).length+1+(az y).length+1+(az z).length:=by
 simp [aJ,Lib.join_cons,Lib.joinTail];omega
end Go.Proofs.YtbknhgapjjaelaaGreatDoor
