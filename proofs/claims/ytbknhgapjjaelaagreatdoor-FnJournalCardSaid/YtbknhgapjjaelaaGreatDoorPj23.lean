/-
  Part 23 of what the proof stands on: lemmas and contracts, each with its conditions ahead of the colon.
-/
import Derived.Test.YtbknhgapjjaelaaGreatDoorPj01
import Derived.Deep.RegionHeld3
import Derived.Deep.DeepCutAuto
import Derived.Deep.RegionWith
import Derived.Test.YtbknhgapjjaelaaGreatDoorPj03
import Derived.Test.YtbknhgapjjaelaaGreatDoorPj09
import Derived.Test.YtbknhgapjjaelaaGreatDoorPj12
import Derived.Test.YtbknhgapjjaelaaGreatDoorPj20
import Derived.Test.YtbknhgapjjaelaaGreatDoorPj21
import Derived.Test.YtbknhgapjjaelaaGreatDoorPj22
set_option maxRecDepth 100000
set_option maxHeartbeats 16000000
namespace Go.Proofs.YtbknhgapjjaelaaGreatDoor
set_option linter.unusedVariables false
set_option linter.unusedSimpArgs false
open Go.RowKit
def uu (r:Int × Int × List Int × List Int × Bool) (d:DD):Option (DD × List UInt8):=if r.2.2.2.2 then some ({ d with R:=r.1,C:=r.2.1,A:=r.2.2.1,B:=r.2.2.2.1 },lr) else none
def rH (r:Int × Int × List Int × List Int × Bool) (d:DD):Option (DD × List UInt8):=if r.2.2.2.2 then some ({ d with U:=r.1,N:=r.2.1,W:=r.2.2.1,K:=r.2.2.2.1 },lr) else none
def qx (r:Int × Int × List Int × Bool) (d:DD):Option (DD × List UInt8):=if r.2.2.2 then some ({ d with P:=r.1,T:=r.2.1,V:=r.2.2.1 },lr) else none
def pR (t:List UInt8) (d:DD):il:=some (uu (iS cZ t) d)
def mz (t:List UInt8) (d:DD):il:=some (qx (pL bM t) d)
def oy (t:List UInt8) (d:DD):il:=some (rH (iS iN t) d)
def oz (t:List UInt8) (d:DD):il:=some (match fP t with | none=>none | some ns=>some ({ d with F:=ns },lr))
def ff (t:List UInt8) (f:List Int→DD→Option (List UInt8)) (d:DD):il:=some (match dD t with | none=>none | some xs=>(f xs d).map fun s=>(d,s))
theorem Ft {t:List UInt8} {ns:List Nat} (h:fP t=some ns):∀ y∈ns,y<4294967296:=(rQ h).2.2
theorem Jv (t:List UInt8) (ht:t.length≤1048576):js ke t (pR t):=by
 intro w b d x lo hlo hlx hE hok hca hB hR0
 try dsimp only
 have hR:DRd w w.heap.size d x:=hR0.mono (Nat.le_of_lt hB.lt);have hts:(bs t).size≤1048576:=by rw [aE];exact ht
 have htl:(bs t).data.toList=t:=cu t;have LG:=Oi (BK w hE.tab hE.shp hE.err (bs t) hts);rw [htl] at LG;unfold RetGame at LG;unfold pR;generalize iS cZ t=r at LG ⊢;obtain ⟨p,q,la,lb,k⟩:=r;have HB:=Oi hB;have HLX:=Oi hlx;have HLO:=Oi hlo;have HR:=Oi hR;have HR0:=Oi hR0;clear hlx hlo hB hR hR0 hE hok hca ht hts;obtain ⟨s,hs⟩:∃ s:ByteArray,s=bs ke:=⟨_,rfl⟩;have t_game:(s.toList == [103,97,109,101])=true:=by rw [hs,ab];rfl
 rw [← hs];clear hs;obtain ⟨z,hz⟩:∃ z:ByteArray,z=bs t:=⟨_,rfl⟩;rw [← hz] at LG ⊢;clear hz htl
 go_enter Tryz.func99,Tryz.ntmps99;go_wp2_with fail;refine LG.out.mono ?_;rintro e w1 ⟨hb,a2,c2,a3,c3,rfl,ho⟩;obtain ⟨m,hm,o1,o2⟩:=ho;have KB:=HB.out.same hb;have KT:=HR0.out.below hb (Nat.le_of_lt HB.out.lt);obtain ⟨y0,y1,y2,y3,y4,y5,y6,y7,y8,y9,y10,y11⟩:=af KB;have g0:=KB.free 0;have g1:=KB.free 1;have g2:=KB.free 2;have g3:=KB.free 3;have g4:=KB.free 4;have g5:=KB.free 5;have g6:=KB.free 6;have g7:=KB.free 7;have g8:=KB.free 8;have g9:=KB.free 9;have g10:=KB.free 10;have g11:=KB.free 11;have PT:=Oi (Ef KB KT p q la a2 c2 lb a3 c3 (kr o1 HB.out.lt hm.2) (kr o2 (Nat.lt_of_lt_of_le HB.out.lt hm.1) (Nat.le_refl _)));have hbb:=Oi hb;clear KB KT hb o1 o2 hm;go_wp2_with fail;go_ret3
 cases k with
 | false=>exact PT.out.no hbb.out _
 | true=>exact PT.out.yes hbb.out HLO.out HLX.out lr
theorem DB (t:List UInt8) (ht:t.length≤1048576):js gM t (mz t):=by
 intro w b d x lo hlo hlx hE hok hca hB hR0
 try dsimp only
 have hR:DRd w w.heap.size d x:=hR0.mono (Nat.le_of_lt hB.lt);have hts:(bs t).size≤1048576:=by rw [aE];exact ht
 have htl:(bs t).data.toList=t:=cu t;have LG:=Oi (xc w hE.tab hE.shp hE.err (bs t) hts);rw [htl] at LG;unfold RetValues at LG;unfold mz;generalize pL bM t=r at LG ⊢;obtain ⟨p,q,la,k⟩:=r;have HB:=Oi hB;have HLX:=Oi hlx;have HLO:=Oi hlo;have HR:=Oi hR;have HR0:=Oi hR0;clear hlx hlo hB hR hR0 hE hok hca ht hts;obtain ⟨s,hs⟩:∃ s:ByteArray,s=bs gM:=⟨_,rfl⟩;have t_game:(s.toList == [103,97,109,101])=false:=by rw [hs,ab];rfl
 have t_values:(s.toList == [118,97,108,117,101,115])=true:=by rw [hs,ab];rfl
 rw [← hs];clear hs;obtain ⟨z,hz⟩:∃ z:ByteArray,z=bs t:=⟨_,rfl⟩;rw [← hz] at LG ⊢;clear hz htl
 go_enter Tryz.func99,Tryz.ntmps99;go_wp2_with fail;refine LG.out.mono ?_;rintro e w1 ⟨hb,a2,c2,rfl,ho⟩;obtain ⟨hm,o1⟩:=ho;have KB:=HB.out.same hb;have KT:=HR0.out.below hb (Nat.le_of_lt HB.out.lt);obtain ⟨y0,y1,y2,y3,y4,y5,y6,y7,y8,y9,y10,y11⟩:=af KB;have g0:=KB.free 0;have g1:=KB.free 1;have g2:=KB.free 2;have g3:=KB.free 3;have g4:=KB.free 4;have g5:=KB.free 5;have g6:=KB.free 6;have g7:=KB.free 7;have g8:=KB.free 8;have g9:=KB.free 9;have g10:=KB.free 10;have g11:=KB.free 11;have PT:=Oi (IL KB KT p q la a2 c2 (kr o1 HB.out.lt (Nat.le_refl _)));have hbb:=Oi hb;clear KB KT hb o1 hm;go_wp2_with fail;go_ret3
 cases k with
 | false=>exact PT.out.no hbb.out _
 | true=>exact PT.out.yes hbb.out HLO.out HLX.out lr
theorem Gp (t:List UInt8) (ht:t.length≤1048576):js iK t (oy t):=by
 intro w b d x lo hlo hlx hE hok hca hB hR0
 try dsimp only
 have hR:DRd w w.heap.size d x:=hR0.mono (Nat.le_of_lt hB.lt);have hts:(bs t).size≤1048576:=by rw [aE];exact ht
 have htl:(bs t).data.toList=t:=cu t;have LG:=Oi (zg w hE.tab hE.shp hE.err (bs t) hts);rw [htl] at LG;unfold RetCrowd at LG;unfold oy;generalize iS iN t=r at LG ⊢;obtain ⟨p,q,la,lb,k⟩:=r;have HB:=Oi hB;have HLX:=Oi hlx;have HLO:=Oi hlo;have HR:=Oi hR;have HR0:=Oi hR0;clear hlx hlo hB hR hR0 hE hok hca ht hts;obtain ⟨s,hs⟩:∃ s:ByteArray,s=bs iK:=⟨_,rfl⟩;have t_game:(s.toList == [103,97,109,101])=false:=by rw [hs,ab];rfl
 have t_values:(s.toList == [118,97,108,117,101,115])=false:=by rw [hs,ab];rfl
 have t_crowd:(s.toList == [99,114,111,119,100])=true:=by rw [hs,ab];rfl
 rw [← hs];clear hs;obtain ⟨z,hz⟩:∃ z:ByteArray,z=bs t:=⟨_,rfl⟩;rw [← hz] at LG ⊢;clear hz htl
 go_enter Tryz.func99,Tryz.ntmps99;go_wp2_with fail;refine LG.out.mono ?_;rintro e w1 ⟨hb,a2,c2,a3,c3,rfl,ho⟩;obtain ⟨m,hm,o1,o2⟩:=ho;have KB:=HB.out.same hb;have KT:=HR0.out.below hb (Nat.le_of_lt HB.out.lt);obtain ⟨y0,y1,y2,y3,y4,y5,y6,y7,y8,y9,y10,y11⟩:=af KB;have g0:=KB.free 0;have g1:=KB.free 1;have g2:=KB.free 2;have g3:=KB.free 3;have g4:=KB.free 4;have g5:=KB.free 5;have g6:=KB.free 6;have g7:=KB.free 7;have g8:=KB.free 8;have g9:=KB.free 9;have g10:=KB.free 10;have g11:=KB.free 11;have PT:=Oi (uz KB KT p q la a2 c2 lb a3 c3 (kr o1 HB.out.lt hm.2) (kr o2 (Nat.lt_of_lt_of_le HB.out.lt hm.1) (Nat.le_refl _)));have hbb:=Oi hb;clear KB KT hb o1 o2 hm;go_wp2_with fail;go_ret3
 cases k with
 | false=>exact PT.out.no hbb.out _
 | true=>exact PT.out.yes hbb.out HLO.out HLX.out lr
theorem Gs (t:List UInt8) (ht:t.length≤1048576):js iL t (oz t):=by
 intro w b d x lo hlo hlx hE hok hca hB hR0
 try dsimp only
 have hR:DRd w w.heap.size d x:=hR0.mono (Nat.le_of_lt hB.lt);have hts:(bs t).size≤1048576:=by rw [aE];exact ht
 have htl:(bs t).data.toList=t:=cu t;have LG:=Oi (vF w hE.bit hE.shp hE.err (bs t) hts);rw [htl] at LG;unfold zm at LG;unfold oz;have HN:Hid (∀ ns,fP t=some ns→∀ y∈ns,y<4294967296):=fun ns h=>Ft h
 generalize fP t=r at LG HN ⊢;have HB:=Oi hB;have HLX:=Oi hlx;have HLO:=Oi hlo;have HR:=Oi hR;have HR0:=Oi hR0;clear hlx hlo hB hR hR0 hE hok hca ht hts;obtain ⟨s,hs⟩:∃ s:ByteArray,s=bs iL:=⟨_,rfl⟩;have t_game:(s.toList == [103,97,109,101])=false:=by rw [hs,ab];rfl
 have t_values:(s.toList == [118,97,108,117,101,115])=false:=by rw [hs,ab];rfl
 have t_crowd:(s.toList == [99,114,111,119,100])=false:=by rw [hs,ab];rfl
 have t_turns:(s.toList == [116,117,114,110,115])=true:=by rw [hs,ab];rfl
 rw [← hs];clear hs;obtain ⟨z,hz⟩:∃ z:ByteArray,z=bs t:=⟨_,rfl⟩;rw [← hz] at LG ⊢;clear hz htl
 go_enter Tryz.func99,Tryz.ntmps99;go_wp2_with fail;refine LG.out.mono ?_
 cases r with
 | none =>
   rintro e w1 ⟨hb,rfl⟩;have KB:=HB.out.same hb;have KT:=HR0.out.below hb (Nat.le_of_lt HB.out.lt);obtain ⟨y0,y1,y2,y3,y4,y5,y6,y7,y8,y9,y10,y11⟩:=af KB;have g0:=KB.free 0;have g1:=KB.free 1;have g2:=KB.free 2;have g3:=KB.free 3;have g4:=KB.free 4;have g5:=KB.free 5;have g6:=KB.free 6;have g7:=KB.free 7;have g8:=KB.free 8;have g9:=KB.free 9;have g10:=KB.free 10;have g11:=KB.free 11;have PT:=Oi (qS KB KT [] none 0 (qT _ _) (fun y hy=>by cases hy))
   have hbb:=Oi hb;rw [List.length_nil] at PT;clear KB KT hb;go_wp2_with fail;go_ret3;exact PT.out.no hbb.out _
 | some ns =>
   rintro e w1 ⟨hb,a,c,rfl,ho⟩;have KB:=HB.out.same hb;have KT:=HR0.out.below hb (Nat.le_of_lt HB.out.lt);obtain ⟨y0,y1,y2,y3,y4,y5,y6,y7,y8,y9,y10,y11⟩:=af KB;have g0:=KB.free 0;have g1:=KB.free 1;have g2:=KB.free 2;have g3:=KB.free 3;have g4:=KB.free 4;have g5:=KB.free 5;have g6:=KB.free 6;have g7:=KB.free 7;have g8:=KB.free 8;have g9:=KB.free 9;have g10:=KB.free 10;have g11:=KB.free 11;have PT:=Oi (qS KB KT ns a c (yn (OwnF.of_own ho) HB.out.lt (Nat.le_refl _)) (HN.out ns rfl));have hbb:=Oi hb;clear KB KT hb ho;go_wp2_with fail;go_ret3;exact PT.out.yes hbb.out HLO.out HLX.out lr
theorem Jy {t:List UInt8} (ht:t.length≤1048576) {f:List Int→DD→Option (List UInt8)} (HF:∀ xs:List Int,xs.length≤64→oR nI xs (f xs)):js nI t (ff t f):=by
 intro w b d x lo hlo hlx hE hok hca hB hR0;have hR:DRd w w.heap.size d x:=hR0.mono (Nat.le_of_lt hB.lt);have hts:(bs t).size≤1048576:=by rw [aE];exact ht
 have htl:(bs t).data.toList=t:=cu t;have LG:=Oi (gW w hE.tab hE.shp hE.err (bs t) hts);rw [htl] at LG;unfold ww at LG;unfold ff;have HN:Hid (∀ ns,dD t=some ns→ns.length≤64):=fun ns h=>ky h
 have LF:=Oi (fun (xs:List Int) (hx:xs.length≤64) (w1:World) (hb:Below w.heap.size w w1) (a:Option Addr) (c:Nat) (h:Rd w1 w1.heap.size a (ae xs))=>HF xs hx w1 b d x a c (hE.to hb) hok (hB.same hb) (hR.to hb) h)
 generalize dD t=r at LG HN ⊢;have HB:=Oi hB;have HLX:=Oi hlx;have HLO:=Oi hlo;have HR:=Oi hR;clear hlx hlo hB hR hR0 hE hok hca ht hts HF;obtain ⟨s,hs⟩:∃ s:ByteArray,s=bs nI:=⟨_,rfl⟩;have t_game:(s.toList == [103,97,109,101])=false:=by rw [hs,ab];rfl
 have t_values:(s.toList == [118,97,108,117,101,115])=false:=by rw [hs,ab];rfl
 have t_crowd:(s.toList == [99,114,111,119,100])=false:=by rw [hs,ab];rfl
 have t_turns:(s.toList == [116,117,114,110,115])=false:=by rw [hs,ab];rfl
 have t_learn:(s.toList == [108,101,97,114,110])=false:=by rw [hs,ab];rfl
 have t_rent:(s.toList == [114,101,110,116])=false:=by rw [hs,ab];rfl
 have t_take:(s.toList == [116,97,107,101])=true:=by rw [hs,ab];rfl
 rw [← hs] at LF ⊢;clear hs;obtain ⟨z,hz⟩:∃ z:ByteArray,z=bs t:=⟨_,rfl⟩;rw [← hz] at LG ⊢;clear hz htl
 go_enter Tryz.func99,Tryz.ntmps99;go_wp2_with fail;refine LG.out.mono ?_
 cases r with
 | none =>
   rintro e w1 ⟨hb,rfl⟩;have hbb:=Oi hb;clear hb LF;go_wp2_with fail;go_ret3;exact RetAl.no _ (Below.touch hbb.out _ _)
 | some xs =>
   rintro e w1 ⟨hb,g,c,rfl,ho⟩;have L:=Oi (LF.out xs (HN.out xs rfl) w1 hb _ c (ay ho (Nat.le_refl _)));have hbb:=Oi hb;clear hb ho LF HN;obtain ⟨ft,hft⟩:∃ y,y=f xs d:=⟨_,rfl⟩;rw [← hft] at L;have HT:=Oi hft;clear hft;go_wp2_with fail;refine L.out.mono ?_;rintro e w2 ⟨hb2,u,rfl,hu⟩;have HU:=Oi hu;have HB2:=Oi hb2;clear hu hb2;go_wp2_with fail;go_ret3;have e:=HT.out;subst e;exact RetAl.textN (f xs d) (aa hbb.out HB2.out) HB.out HR.out HLX.out HU.out
theorem Ju {t:List UInt8} (ht:t.length≤1048576) {f:List Int→DD→Option (List UInt8)} (HF:∀ xs:List Int,xs.length≤64→oR nG xs (f xs)):js nG t (ff t f):=by
 intro w b d x lo hlo hlx hE hok hca hB hR0;have hR:DRd w w.heap.size d x:=hR0.mono (Nat.le_of_lt hB.lt);have hts:(bs t).size≤1048576:=by rw [aE];exact ht
 have htl:(bs t).data.toList=t:=cu t;have LG:=Oi (gW w hE.tab hE.shp hE.err (bs t) hts);rw [htl] at LG;unfold ww at LG;unfold ff;have HN:Hid (∀ ns,dD t=some ns→ns.length≤64):=fun ns h=>ky h
 have LF:=Oi (fun (xs:List Int) (hx:xs.length≤64) (w1:World) (hb:Below w.heap.size w w1) (a:Option Addr) (c:Nat) (h:Rd w1 w1.heap.size a (ae xs))=>HF xs hx w1 b d x a c (hE.to hb) hok (hB.same hb) (hR.to hb) h)
 generalize dD t=r at LG HN ⊢;have HB:=Oi hB;have HLX:=Oi hlx;have HLO:=Oi hlo;have HR:=Oi hR;clear hlx hlo hB hR hR0 hE hok hca ht hts HF;obtain ⟨s,hs⟩:∃ s:ByteArray,s=bs nG:=⟨_,rfl⟩;have t_game:(s.toList == [103,97,109,101])=false:=by rw [hs,ab];rfl
 have t_values:(s.toList == [118,97,108,117,101,115])=false:=by rw [hs,ab];rfl
 have t_crowd:(s.toList == [99,114,111,119,100])=false:=by rw [hs,ab];rfl
 have t_turns:(s.toList == [116,117,114,110,115])=false:=by rw [hs,ab];rfl
 have t_learn:(s.toList == [108,101,97,114,110])=false:=by rw [hs,ab];rfl
 have t_rent:(s.toList == [114,101,110,116])=false:=by rw [hs,ab];rfl
 have t_take:(s.toList == [116,97,107,101])=false:=by rw [hs,ab];rfl
 have t_envy:(s.toList == [101,110,118,121])=true:=by rw [hs,ab];rfl
 rw [← hs] at LF ⊢;clear hs;obtain ⟨z,hz⟩:∃ z:ByteArray,z=bs t:=⟨_,rfl⟩;rw [← hz] at LG ⊢;clear hz htl
 go_enter Tryz.func99,Tryz.ntmps99;go_wp2_with fail;refine LG.out.mono ?_
 cases r with
 | none =>
   rintro e w1 ⟨hb,rfl⟩;have hbb:=Oi hb;clear hb LF;go_wp2_with fail;go_ret3;exact RetAl.no _ (Below.touch hbb.out _ _)
 | some xs =>
   rintro e w1 ⟨hb,g,c,rfl,ho⟩;have L:=Oi (LF.out xs (HN.out xs rfl) w1 hb _ c (ay ho (Nat.le_refl _)));have hbb:=Oi hb;clear hb ho LF HN;obtain ⟨ft,hft⟩:∃ y,y=f xs d:=⟨_,rfl⟩;rw [← hft] at L;have HT:=Oi hft;clear hft;go_wp2_with fail;refine L.out.mono ?_;rintro e w2 ⟨hb2,u,rfl,hu⟩;have HU:=Oi hu;have HB2:=Oi hb2;clear hu hb2;go_wp2_with fail;go_ret3;have e:=HT.out;subst e;exact RetAl.textN (f xs d) (aa hbb.out HB2.out) HB.out HR.out HLX.out HU.out
theorem Jx {t:List UInt8} (ht:t.length≤1048576) {f:List Int→DD→Option (List UInt8)} (HF:∀ xs:List Int,xs.length≤64→oR nH xs (f xs)):js nH t (ff t f):=by
 intro w b d x lo hlo hlx hE hok hca hB hR0;have hR:DRd w w.heap.size d x:=hR0.mono (Nat.le_of_lt hB.lt);have hts:(bs t).size≤1048576:=by rw [aE];exact ht
 have htl:(bs t).data.toList=t:=cu t;have LG:=Oi (gW w hE.tab hE.shp hE.err (bs t) hts);rw [htl] at LG;unfold ww at LG;unfold ff;have HN:Hid (∀ ns,dD t=some ns→ns.length≤64):=fun ns h=>ky h
 have LF:=Oi (fun (xs:List Int) (hx:xs.length≤64) (w1:World) (hb:Below w.heap.size w w1) (a:Option Addr) (c:Nat) (h:Rd w1 w1.heap.size a (ae xs))=>HF xs hx w1 b d x a c (hE.to hb) hok (hB.same hb) (hR.to hb) h)
 generalize dD t=r at LG HN ⊢;have HB:=Oi hB;have HLX:=Oi hlx;have HLO:=Oi hlo;have HR:=Oi hR;clear hlx hlo hB hR hR0 hE hok hca ht hts HF;obtain ⟨s,hs⟩:∃ s:ByteArray,s=bs nH:=⟨_,rfl⟩;have t_game:(s.toList == [103,97,109,101])=false:=by rw [hs,ab];rfl
 have t_values:(s.toList == [118,97,108,117,101,115])=false:=by rw [hs,ab];rfl
 have t_crowd:(s.toList == [99,114,111,119,100])=false:=by rw [hs,ab];rfl
 have t_turns:(s.toList == [116,117,114,110,115])=false:=by rw [hs,ab];rfl
 have t_learn:(s.toList == [108,101,97,114,110])=false:=by rw [hs,ab];rfl
 have t_rent:(s.toList == [114,101,110,116])=false:=by rw [hs,ab];rfl
 have t_take:(s.toList == [116,97,107,101])=false:=by rw [hs,ab];rfl
 have t_envy:(s.toList == [101,110,118,121])=false:=by rw [hs,ab];rfl
 have t_rest:(s.toList == [114,101,115,116])=true:=by rw [hs,ab];rfl
 rw [← hs] at LF ⊢;clear hs;obtain ⟨z,hz⟩:∃ z:ByteArray,z=bs t:=⟨_,rfl⟩;rw [← hz] at LG ⊢;clear hz htl
 go_enter Tryz.func99,Tryz.ntmps99;go_wp2_with fail;refine LG.out.mono ?_
 cases r with
 | none =>
   rintro e w1 ⟨hb,rfl⟩;have hbb:=Oi hb;clear hb LF;go_wp2_with fail;go_ret3;exact RetAl.no _ (Below.touch hbb.out _ _)
 | some xs =>
   rintro e w1 ⟨hb,g,c,rfl,ho⟩;have L:=Oi (LF.out xs (HN.out xs rfl) w1 hb _ c (ay ho (Nat.le_refl _)));have hbb:=Oi hb;clear hb ho LF HN;obtain ⟨ft,hft⟩:∃ y,y=f xs d:=⟨_,rfl⟩;rw [← hft] at L;have HT:=Oi hft;clear hft;go_wp2_with fail;refine L.out.mono ?_;rintro e w2 ⟨hb2,u,rfl,hu⟩;have HU:=Oi hu;have HB2:=Oi hb2;clear hu hb2;go_wp2_with fail;go_ret3;have e:=HT.out;subst e;exact RetAl.textN (f xs d) (aa hbb.out HB2.out) HB.out HR.out HLX.out HU.out
theorem Gr {t:List UInt8} (ht:t.length≤1048576) {f:List Int→DD→Option (List UInt8)} (HF:∀ xs:List Int,xs.length≤64→oR lq xs (f xs)):js lq t (ff t f):=by
 intro w b d x lo hlo hlx hE hok hca hB hR0;have hR:DRd w w.heap.size d x:=hR0.mono (Nat.le_of_lt hB.lt);have hts:(bs t).size≤1048576:=by rw [aE];exact ht
 have htl:(bs t).data.toList=t:=cu t;have LG:=Oi (gW w hE.tab hE.shp hE.err (bs t) hts);rw [htl] at LG;unfold ww at LG;unfold ff;have HN:Hid (∀ ns,dD t=some ns→ns.length≤64):=fun ns h=>ky h
 have LF:=Oi (fun (xs:List Int) (hx:xs.length≤64) (w1:World) (hb:Below w.heap.size w w1) (a:Option Addr) (c:Nat) (h:Rd w1 w1.heap.size a (ae xs))=>HF xs hx w1 b d x a c (hE.to hb) hok (hB.same hb) (hR.to hb) h)
 generalize dD t=r at LG HN ⊢;have HB:=Oi hB;have HLX:=Oi hlx;have HLO:=Oi hlo;have HR:=Oi hR;clear hlx hlo hB hR hR0 hE hok hca ht hts HF;obtain ⟨s,hs⟩:∃ s:ByteArray,s=bs lq:=⟨_,rfl⟩;have t_game:(s.toList == [103,97,109,101])=false:=by rw [hs,ab];rfl
 have t_values:(s.toList == [118,97,108,117,101,115])=false:=by rw [hs,ab];rfl
 have t_crowd:(s.toList == [99,114,111,119,100])=false:=by rw [hs,ab];rfl
 have t_turns:(s.toList == [116,117,114,110,115])=false:=by rw [hs,ab];rfl
 have t_learn:(s.toList == [108,101,97,114,110])=false:=by rw [hs,ab];rfl
 have t_rent:(s.toList == [114,101,110,116])=false:=by rw [hs,ab];rfl
 have t_take:(s.toList == [116,97,107,101])=false:=by rw [hs,ab];rfl
 have t_envy:(s.toList == [101,110,118,121])=false:=by rw [hs,ab];rfl
 have t_rest:(s.toList == [114,101,115,116])=false:=by rw [hs,ab];rfl
 have t_total:(s.toList == [116,111,116,97,108])=true:=by rw [hs,ab];rfl
 rw [← hs] at LF ⊢;clear hs;obtain ⟨z,hz⟩:∃ z:ByteArray,z=bs t:=⟨_,rfl⟩;rw [← hz] at LG ⊢;clear hz htl
 go_enter Tryz.func99,Tryz.ntmps99;go_wp2_with fail;refine LG.out.mono ?_
 cases r with
 | none =>
   rintro e w1 ⟨hb,rfl⟩;have hbb:=Oi hb;clear hb LF;go_wp2_with fail;go_ret3;exact RetAl.no _ (Below.touch hbb.out _ _)
 | some xs =>
   rintro e w1 ⟨hb,g,c,rfl,ho⟩;have L:=Oi (LF.out xs (HN.out xs rfl) w1 hb _ c (ay ho (Nat.le_refl _)));have hbb:=Oi hb;clear hb ho LF HN;obtain ⟨ft,hft⟩:∃ y,y=f xs d:=⟨_,rfl⟩;rw [← hft] at L;have HT:=Oi hft;clear hft;go_wp2_with fail;refine L.out.mono ?_;rintro e w2 ⟨hb2,u,rfl,hu⟩;have HU:=Oi hu;have HB2:=Oi hb2;clear hu hb2;go_wp2_with fail;go_ret3;have e:=HT.out;subst e;exact RetAl.textN (f xs d) (aa hbb.out HB2.out) HB.out HR.out HLX.out HU.out
theorem sW {w:World} {B:Nat} {a:Option Addr} {v:Value} {vs:List Value} (h:Rd w B a (v :: vs)):∃ g o,a=some ⟨g,o,none⟩∧g<B∧∀ j,j<(v :: vs).length→w.cell? ⟨g,o+j,none⟩=(v :: vs)[j]?:=by
 rcases h with h | ⟨g,o,h1,h2,h3⟩
 · cases h
 · exact ⟨g,o,h1,h2,h3⟩
theorem RetAl.drew {lo b:Nat} {w w':World} {r:il} {e:Ending} (h:RetAl lo b w.drew r e w'):RetAl lo b w r e w':=⟨⟨h.1.os,h.1.tape,h.1.output,h.1.size,h.1.block⟩,h.2⟩
theorem RetAl.form {lo b:Nat} {w w':World} {r:il} {e:Ending} (h:RetAl lo b w r e w'):∃ (t:ByteArray) (k1 k2:Bool),e=.returned (.tuple #[.string t,.bool k1,.bool k2])∧RetAl lo b w r (.returned (.tuple #[.string t,.bool k1,.bool k2])) w':=by
 obtain ⟨ht,h⟩:=h
 rcases r with _ | _ | ⟨d',t'⟩
 · obtain ⟨t,k,e⟩:=h;subst e;exact ⟨_,_,_,rfl,ht,_,_,rfl⟩
 · obtain ⟨t,e⟩:=h;subst e;exact ⟨_,_,_,rfl,ht,_,rfl⟩
 · obtain ⟨e,h⟩:=h;subst e;exact ⟨_,_,_,rfl,ht,rfl,h⟩
def NQ (lo b:Nat) (w:World) (r:il) (e:Ending) (w':World):Prop:=∃ (t:ByteArray) (k1 k2:Bool),e=.returned (.tuple #[.string t,.bool k1,.bool k2])∧Hid (RetAl lo b w r (.returned (.tuple #[.string t,.bool k1,.bool k2])) w')
theorem GM {s:List UInt8} {f:DD→il} (HA:fz s f):kG [s] f:=by
 intro w b d x lo a c hlo hlx hE hok hca hB hR ha;have L:Hid (Calls Tryz.prog 98 #[.pointer (some ⟨b,0,none⟩),.string (bs s)] w (NQ lo b w (f d))):=(HA w b d x lo hlo hlx hE hok hca hB hR).mono fun e w' h=>h.form
 obtain ⟨g,o,rfl,hg,hc⟩:=sW (show Rd w w.heap.size a (.string (bs s) :: []) from ha)
 have z:w.cell? ⟨g,o,none⟩=some (.string (bs s)):=hc 0 (by simp)
 clear hlo hlx hc hE hok hca hB hR ha HA;generalize f d=r at L ⊢;generalize bs s=t at L z;simp only [List.length_cons,List.length_nil,Nat.zero_add]
 go_enter Tryz.func67,Tryz.ntmps67;go_wp2_with fail;refine L.out.mono ?_;rintro e w1 ⟨t,k1,k2,rfl,h⟩;go_wp2_with fail;go_ret3;exact h.out
theorem GN {s t:List UInt8} {f:DD→il} (HW:js s t f):kG [s,t] f:=by
 intro w b d x lo a c hlo hlx hE hok hca hB hR ha;have L:Hid (Calls Tryz.prog 99 #[.pointer (some ⟨b,0,none⟩),.string (bs s),.string (bs t)] w.drew (fun e w'=>∃ (t:ByteArray) (k1 k2:Bool),e=.returned (.tuple #[.string t,.bool k1,.bool k2])∧Hid (RetAl lo b w.drew (f d) (.returned (.tuple #[.string t,.bool k1,.bool k2])) w'))):=(HW w.drew b d x lo hlo hlx (hE.to (aq (Below.refl _ _))) hok hca (hB.same (aq (Below.refl _ _))) (hR.below (aq (Below.refl _ _)) (Nat.le_of_lt hB.lt))).mono fun e w' h=>h.form
 obtain ⟨g,o,rfl,hg,hc⟩:=sW (show Rd w w.heap.size a (.string (bs s) :: .string (bs t) :: []) from ha)
 have z:w.cell? ⟨g,o,none⟩=some (.string (bs s)):=hc 0 (by simp)
 have y:w.cell? ⟨g,o+1,none⟩=some (.string (bs t)):=hc 1 (by simp)
 clear hlo hlx hc hE hok hca hB hR ha HW;generalize f d=r at L ⊢;generalize bs s=sb at L z;generalize bs t=tb at L y;simp only [List.length_cons,List.length_nil,Nat.zero_add]
 go_enter Tryz.func67,Tryz.ntmps67
 go_upto_region 4 with fail
 go_region_law (go_simp;refine L.out.mono ?_;rintro e w1 ⟨t,k1,k2,rfl,h⟩;dsimp only)
 all_goals
  go_simp
  rename_i hK
  refine hK _ _ ?_
  clear L y z;go_wp2_with fail;go_ret3;exact RetAl.drew h.out
end Go.Proofs.YtbknhgapjjaelaaGreatDoor
