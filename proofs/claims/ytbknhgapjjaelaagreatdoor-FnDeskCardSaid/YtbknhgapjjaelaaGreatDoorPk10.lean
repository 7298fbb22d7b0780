/-
  Part 10 of what the proof stands on: lemmas and contracts, each with its conditions ahead of the colon.
-/
import Derived.Test.YtbknhgapjjaelaaGreatDoorShelf
import Derived.Lib.Join
import Derived.Laws.Externs
import Derived.Test.YtbknhgapjjaelaaGreatDoorPk01
import Derived.Test.YtbknhgapjjaelaaGreatDoorPk02
import Derived.Test.YtbknhgapjjaelaaGreatDoorPk09
set_option maxRecDepth 10000
set_option maxHeartbeats 4000000
namespace Go.Proofs.YtbknhgapjjaelaaGreatDoor
set_option linter.unusedVariables false
set_option linter.unusedSimpArgs false
open Go.RowKit
def eR (l:List UInt8):List (List UInt8):=(jg 10 l l.length).1
def lg (l:List UInt8):List UInt8:=l.drop (jg 10 l l.length).2
theorem wQ (l:List UInt8):co 10 l=eR l ++ [lg l]:=I9 10 l
theorem qK (l:List UInt8):(eR l).length≤l.length:=A6 10 l l.length
def fQ (x:List UInt8):Bool:=decide (x=[110,111]) || decide (x=[119,104,97,116])
def fY (xs:List (List UInt8)) (k:Nat):Nat:=((xs.take k).filter fQ).length
theorem ID {xs:List (List UInt8)} {k:Nat} {x:List UInt8} (h:xs[k]? = some x):fY xs (k+1)=fY xs k+if fQ x then 1 else 0:=by
 unfold fY;rw [List.take_add_one,h,List.filter_append,List.length_append]
 cases hb:fQ x <;> simp [hb]
theorem Dm (xs:List (List UInt8)) (k:Nat):fY xs k≤k:=Nat.le_trans (List.length_filter_le _ _) (by simp;omega)
theorem KU {xs:List (List UInt8)} {k:Nat} {v:Value} (h:(cn xs)[k]? = some v):∃ l,xs[k]? = some l∧v=.string (bs l):=by
 unfold cn at h;rw [List.getElem?_map] at h
 cases hx:xs[k]? with
 | none=>rw [hx] at h;cases h
 | some l=>rw [hx] at h;injection h with h;exact ⟨l,rfl,h.symm⟩
theorem BL (W:World) (h:W.ShapedOpen Tryz.prog):∃ m,W.cell? ⟨1,0,none⟩=some (.int .i64 m):=Tryz.laysM146.s1_3 W h
def Shp (w:World):Prop:=∃ m,w.cell? ⟨1,0,none⟩=some (.int .i64 m)
theorem Shp.lt {w:World} (h:Shp w):1<w.heap.size:=by obtain ⟨m,hm⟩:=h;exact World.block_lt_of_cell? w _ hm
theorem Shp.to {w w':World} (h:Shp w) (hb:Below w.heap.size w w'):Shp w':=by
 have hl:=h.lt;obtain ⟨m,hm⟩:=h;exact ⟨m,(hb.cell (p:=⟨1,0,none⟩) hl).trans hm⟩
theorem oN (w:World) (h:Shp w) (s:ByteArray) (hs:s.size≤1048576) (c:UInt8) (sep:ByteArray) (hc:sep.data.toList=[c]) :
 Calls Tryz.prog 68 #[.string s,.string sep] w fun e w'=>e=.returned (.slice (some ⟨w.heap.size,0,none⟩) (co c s.data.toList).length (co c s.data.toList).length)∧Blk w' w.heap.size (cn (co c s.data.toList)) 9∧Below w.heap.size w w':=by
 obtain ⟨m,hm⟩:=h;refine (Tryz.strings_Split s sep m w (by omega) hm (by rw [Lib.size_eq,hc];exact Nat.le_refl _)).mono ?_
 rintro e w' ⟨rfl,rfl⟩;rw [Fp hc,Cl hc];exact ⟨rfl,Blk.new w _ _,ah _ _⟩
def jA (l:List UInt8):Option (Int × Int):=if decide (l.length≤16000) && decide (lg l=[]) then some ((fY (eR l) (eR l).length:Int),((eR l).length:Int) - (fY (eR l) (eR l).length:Int)) else none
theorem F9 {l:List UInt8} (h:(decide (l.length≤16000) && decide (lg l=[]))=false):jA l=none:=by unfold jA;rw [h];rfl
theorem uI {l:List UInt8} (h:(decide (l.length≤16000) && decide (lg l=[]))=true):jA l=some ((fY (eR l) (eR l).length:Int),((eR l).length:Int) - (fY (eR l) (eR l).length:Int)):=by unfold jA;rw [h];rfl
def J5 (w:World) (ls:List (List UInt8)) (ok:Bool) (e:Ending) (w':World):Prop:=∃ a c,e=.returned (.tuple #[.slice a ls.length c,.bool ok])∧Rd w' w'.heap.size a (cn ls)∧Below w.heap.size w w'
theorem tj (w:World) (h:Shp w) (s:ByteArray) (hs:s.size≤1048576) :
 Calls Tryz.prog 41 #[.string s] w (J5 w (eR s.data.toList) (decide (s.data.toList.length≤16000) && decide (lg s.data.toList=[]))):=by
 have LS:=Na (oN w h s hs 10 ⟨#[10]⟩ rfl);rw [wQ] at LS;obtain ⟨l,hl⟩:∃ l,l=s.data.toList:=⟨_,rfl⟩;have hsz:s.size=l.length:=by rw [hl];exact Lib.size_eq s
 rw [← hl] at LS ⊢;have hlen:=qK l;generalize eR l=ls at *
 generalize lg l=rs at *
 rw [List.length_append,List.length_singleton] at LS;rw [hsz] at hs;have Hsz:=Na hsz;clear hsz hl h
 go_enter Tryz.func41,Tryz.ntmps41;go_wp2_with fail;refine LS.out.mono ?_;rintro e w1 ⟨rfl,hb,hw⟩;have F:∀ z:Later w1,z.w'.cell? ⟨w.heap.size,ls.length,none⟩=some (.string (bs rs)):=fun z=>z.cell hb.lt (by rw [hb.cell,gZ];simp [cn])
 have n0:(0:Int)≤(ls.length:Int):=Int.natCast_nonneg _;have hE:=IR rs;have HRD:Hid (∀ z:Later w1,Rd z.w' z.w'.heap.size (some ⟨w.heap.size,0,none⟩) (cn ls)):=fun z=>by
  have hsz:=z.h.size;refine .inr ⟨w.heap.size,0,rfl,Nat.lt_of_lt_of_le hb.lt hsz,fun j hj=>?_⟩
  rw [Nat.zero_add,(z.h.cell (p:=⟨w.heap.size,j,none⟩) hb.lt),hb.cell,gZ,List.getElem?_append_left hj]
 have HW:=Na hw
 by_cases hle:(s.size:Int)≤16000
 · have HB:Hid ((decide (l.length≤16000) && decide (rs=[]))=decide (rs=[])):=by
     rw [Hid,decide_eq_true (by have:=Hsz.out;omega),Bool.true_and]
   generalize decide (rs=[])=r at *
   clear hb;go_wp2_with fail;refine bf (by kernel_rfl) (by kernel_rfl) ?_
   repeat (go_big_quiet_step (fail))
   refine wpQuiet_nil ?_
   rintro wq ⟨⟨_,hbq⟩,rfl⟩;have HR:=Na (HRD.out ⟨wq,hbq⟩);clear F hE HRD hw;go_wp2_with fail
   go_ret2
   rw [HB.out];exact ⟨_,_,rfl,HR.out,aa HW.out hbq⟩
 · have HB:Hid ((decide (l.length≤16000) && decide (rs=[]))=false):=by
     rw [Hid,decide_eq_false (by have:=Hsz.out;omega),Bool.false_and]
   have hd:decide ((s.size:Int)≤16000)=false:=decide_eq_false hle;clear hb;go_wp2_with fail;refine bf (by kernel_rfl) (by kernel_rfl) ?_
   repeat (go_big_quiet_step (fail))
   refine wpQuiet_nil ?_
   rintro wq ⟨⟨_,hbq⟩,rfl⟩;have HR:=Na (HRD.out ⟨wq,hbq⟩);clear F hE HRD hw;go_wp2_with fail
   go_ret2
   rw [HB.out];exact ⟨_,_,rfl,HR.out,aa HW.out hbq⟩
theorem zS (w:World) (h:Shp w) (s:ByteArray) (hs:s.size≤1048576) :
 Calls Tryz.prog 12 #[.string s] w fun e w'=>e=.returned (.tuple #[.int .i64 (((jA s.data.toList).map Prod.fst).getD 0),.int .i64 (((jA s.data.toList).map Prod.snd).getD 0),.bool (jA s.data.toList).isSome])∧Below w.heap.size w w':=by
 have LL:=Na (tj w h s hs);have hlen:=qK s.data.toList;rw [← Lib.size_eq] at hlen
 cases t1:(decide (s.data.toList.length≤16000) && decide (lg s.data.toList=[])) with
 | false =>
   have HF:=Na (F9 t1);rw [t1] at LL;generalize eR s.data.toList=ls at *
   generalize jA s.data.toList=cf at *
   clear t1 h
   go_enter Tryz.func12,Tryz.ntmps12;go_wp2_with fail;refine LL.out.mono ?_;rintro e w1 ⟨a,c,rfl,hr,hw⟩;clear hr;go_wp2_with fail;go_ret3;rw [HF.out];exact ⟨rfl,hw⟩
 | true =>
   have HF:=Na (uI t1);rw [t1] at LL;generalize eR s.data.toList=ls at *
   generalize jA s.data.toList=cf at *
   clear t1 h
   go_enter Tryz.func12,Tryz.ntmps12;go_wp2_with fail;refine LL.out.mono ?_;rintro e w1 ⟨a,c,rfl,hr,hw⟩;have HR:=Na hr;have HW:=Na hw;clear hr hw LL;go_wp2_with fail
   go_loop [7,19] (fun bv kv=>∃ k:Nat,k≤ls.length∧kv=.int .i64 k∧bv=.int .i64 (fY ls k)) (fun _ kv=>ls.length - (intOf kv).toNat)
   case atStart=>exact ⟨0,Nat.zero_le _,rfl,rfl⟩
   case round =>
    obtain ⟨k,hk,rfl,rfl⟩:=hrel
    by_cases hlt:k<ls.length
    · obtain ⟨b,o,v,e9,hb,hc,hv⟩:=HR.out.getV (k:=k) (by rw [strs_length];exact hlt)
      obtain ⟨x,hx,rfl⟩:=KU hv.out;subst e9;have HN:=Na (ID hx);have hle:=Dm ls k;have b1:=uJ x [110,111];have b2:=uJ x [119,104,97,116];have HB:Hid (fQ x=(decide (x=[110,111]) || decide (x=[119,104,97,116]))):=rfl
      clear hx hv
      cases t1:decide (x=[110,111]) with
      | true =>
        rw [t1] at b1 HB;rw [HB.out] at HN;go_wp2_with fail
        go_round
        case rel=>exact ⟨k+1,by omega,by go_num,by rw [HN.out];go_num⟩
        case measure=>simp [intOf];omega
      | false =>
        rw [t1] at b1 HB
        cases t2:decide (x=[119,104,97,116]) with
        | true =>
          rw [t2] at b2 HB;rw [HB.out] at HN;go_wp2_with fail
          go_round
          case rel=>exact ⟨k+1,by omega,by go_num,by rw [HN.out];go_num⟩
          case measure=>simp [intOf];omega
        | false =>
          rw [t2] at b2 HB;rw [HB.out] at HN;go_wp2_with fail
          go_round
          case rel=>exact ⟨k+1,by omega,by go_num,by rw [HN.out];go_num⟩
          case measure=>simp [intOf];omega
    · have:k=ls.length:=by omega
      subst this;have hle:=Dm ls ls.length;generalize fY ls ls.length=bn at *
      go_wp2_with fail;go_ret3;rw [HF.out];exact ⟨rfl,HW.out⟩
def az (xs:List Int):List UInt8:=if xs=[] then [110,111,110,101] else Lib.join (xs.map Lib.itoa) [44]
def bq (xs:List Int):Bool:=gm xs (-1000000000000000) 1000000000000000 && decide (xs.length≤64)
theorem iA {n:Int} (h0:-9223372036854775808≤n) (h1:n≤9223372036854775807):(Lib.itoa n).length≤21:=by
 have h:=vo n.natAbs 20 (by omega) (by omega)
 rcases Int.lt_or_le n 0 with hn | hn
 · rw [zr hn];simp;omega
 · rw [zi hn];omega
theorem sy {m:Nat}:∀ {xs:List (List UInt8)},(∀ x∈xs,x.length≤m)→Lib.lens xs≤m * xs.length
 | [],_=>by simp [Lib.lens]
 | x :: xs,h=>by
   have h1:=h x (by simp)
   have h2:=sy (m:=m) (xs:=xs) (fun y hy=>h y (by simp [hy]))
   simp only [Lib.lens,List.map_cons,List.sum_cons,List.length_cons,Nat.mul_succ] at *
   omega
theorem km {m:Nat} {xs:List (List UInt8)} {sep:List UInt8} (h:∀ x∈xs,x.length≤m):(Lib.join xs sep).length≤(m+sep.length) * xs.length:=by
 cases xs with
 | nil=>simp [Lib.join_nil]
 | cons x r =>
   have h1:=h x (by simp)
   have h2:=sy (m:=m) (xs:=r) (fun y hy=>h y (by simp [hy]))
   rw [Lib.join_cons,List.length_append,Lib.joinTail_length,List.length_cons,Nat.mul_succ,Nat.add_mul];omega
theorem oz {xs:List Int} (h:∀ x∈xs,-9223372036854775808≤x∧x≤9223372036854775807):(az xs).length≤22 * xs.length+4:=by
 unfold az
 split
 · simp
 · have:=km (m:=21) (xs:=xs.map Lib.itoa) (sep:=[44]) (fun x hx=>by
     obtain ⟨y,hy,rfl⟩:=List.mem_map.1 hx;have:=h y hy;exact iA this.1 this.2)
   rw [List.length_map] at this;simp at this;omega
theorem xx {xs:List (List UInt8)} {k:Nat} {y sep:List UInt8} (hk:1≤k) (hy:xs[k]? = some y):Lib.join (xs.take (k+1)) sep=Lib.join (xs.take k) sep ++ (sep ++ y):=by
 cases xs with
 | nil=>simp at hy
 | cons x r =>
   obtain ⟨k,rfl⟩:∃ j,k=j+1:=⟨k - 1,by omega⟩;rw [List.take_succ_cons,List.take_succ_cons,Lib.join_cons,Lib.join_cons,Lib.joinTail_take_succ sep r k y (by simpa using hy)]
   simp [List.append_assoc]
theorem zI (xs:List (List UInt8)):(xs.map bs).map (·.data.toList)=xs:=by
 rw [List.map_map]
 conv=>rhs;rw [← List.map_id xs]
 exact List.map_congr_left fun x _=>cP x
theorem AR (w:World) (a:Option Addr) (c:Nat) (xs:List (List UInt8)) (sep:List UInt8) (h:Rd w w.heap.size a (cn xs)) (hc:xs.length≤c) (hl:xs.length≤1048576) (hj:(Lib.join xs sep).length≤140737488355328) :
 Calls Tryz.prog 83 #[.slice a xs.length c,.string (bs sep)] w fun e w'=>e=.returned (.string (bs (Lib.join xs sep)))∧Below w.heap.size w w':=by
 rcases h with h | ⟨b,o,ha,hb,hcell⟩
 · have e:xs=[]:=by
     have:=congrArg List.length h;rw [strs_length] at this;exact List.eq_nil_of_length_eq_zero this
   subst e;refine (Tryz.strings_Join_none a c (bs sep) w).mono ?_;rintro e w' ⟨rfl,rfl⟩;exact ⟨rfl,Below.refl _ _⟩
 · subst ha
   have:=Tryz.strings_Join b o c (xs.map bs) (bs sep) w (fun j x hx=>by
    rw [List.getElem?_map] at hx
    cases hy:xs[j]? with
    | none=>rw [hy] at hx;cases hx
    | some y =>
      rw [hy] at hx;injection hx with hx
      have hjl:j<xs.length:=(List.getElem?_eq_some_iff.1 hy).1;rw [hcell j (by rw [strs_length];exact hjl),Al hy,hx]) hb (by rw [List.length_map];omega) (by rw [List.length_map];exact hc) (by rw [zI,cP];exact hj)
   rw [List.length_map,zI,cP] at this;exact this
theorem vF (w:World) (a:Option Addr) (c:Nat) (xs:List (List UInt8)) (h:Rd w w.heap.size a (cn xs)) (hc:xs.length≤c) (hl:xs.length≤1048576) (hj:(Lib.join xs [44]).length≤140737488355328) :
 Calls Tryz.prog 47 #[.slice a xs.length c] w fun e w'=>e=.returned (.string (bs (if xs=[] then [110,111,110,101] else Lib.join xs [44])))∧Below w.heap.size w w':=by
 have LJ:=Na (AR w a c xs [44] h hc hl hj)
 by_cases he:xs=[]
 · subst he
   clear h
   go_enter Tryz.func47,Tryz.ntmps47;go_wp2_with fail;go_ret;exact ⟨rfl,Below.refl _ _⟩
 · rw [if_neg he]
   have hne:¬ xs.length=0:=fun e=>he (List.eq_nil_of_length_eq_zero e)
   clear h he
   go_enter Tryz.func47,Tryz.ntmps47;go_wp2_with fail;refine LJ.out.mono ?_;rintro e w1 ⟨rfl,hb⟩;go_wp2_with fail;go_ret;exact ⟨rfl,hb⟩
theorem tN (n:Int) (w:World) :
 Calls Tryz.prog 138 #[.int .i64 n] w fun e w'=>e=.returned (.bool (eu n (-1000000000000000) 1000000000000000))∧w=w':=by
 go_enter Tryz.func138,Tryz.ntmps138
 go_wp2_with (go_at_call 74;refine (du _ _ _ _).mono ?_;rintro e w' ⟨rfl,rfl⟩)
 go_ret;exact ⟨rfl,rfl⟩
theorem qQ (w:World) (a:Option Addr) (c:Nat) (xs:List Int) (h:Rd w w.heap.size a (ae xs)) (hl:xs.length≤1048576) :
 Calls Tryz.prog 108 #[.slice a xs.length c] w fun e w'=>e=.returned (.bool (bq xs))∧w=w':=by
 have HV:Hid (bq xs=(gm xs (-1000000000000000) 1000000000000000 && decide (xs.length≤64))):=rfl
 go_enter Tryz.func108,Tryz.ntmps108;go_wp2_with fail
 go_loop [7] (fun i=>∃ k:Nat,k≤xs.length∧i=.int .i64 k∧Hid (gm (xs.take k) (-1000000000000000) 1000000000000000=true)) (fun i=>xs.length - (intOf i).toNat)
 case atStart=>exact ⟨0,Nat.zero_le _,rfl,rfl⟩
 case round =>
  obtain ⟨k,hk,rfl,ha⟩:=hrel
  by_cases hlt:k<xs.length
  · obtain ⟨b,o,x,rfl,hbb,hck,hx⟩:=h.get hlt
    clear h
    cases hin:eu x (-1000000000000000) 1000000000000000 with
    | true =>
      have L:=Na (tN x);rw [hin] at L
      go_wp2_with (go_at_call 138;refine (L.out _).mono ?_;rintro e w' ⟨rfl,rfl⟩)
      go_round
      case rel=>exact ⟨k+1,by omega,by go_num,by rw [Hid,vx hx.out,ha.out,hin];rfl⟩
      case measure=>simp [intOf];omega
    | false =>
      have L:=Na (tN x);rw [hin] at L;have HF:Hid (bq xs=false):=by rw [Hid,HV.out,tI hx.out hin];rfl
      go_wp2_with (go_at_call 138;refine (L.out _).mono ?_;rintro e w' ⟨rfl,rfl⟩)
      go_ret;exact ⟨av HF.out.symm,rfl⟩
  · have:k=xs.length:=by omega
    subst this;rw [List.take_length] at ha;have HF:Hid (bq xs=decide (xs.length≤64)):=by rw [Hid,HV.out,ha.out];rfl
    go_wp2_with fail;go_ret;exact ⟨av (by rw [HF.out];simp <;> omega),rfl⟩
open Ieee
theorem MU:single.signWeight=2147483648:=by decide
theorem MZ:single.binade=8388608:=by decide
theorem MV:single.infRung=2139095040:=by decide
theorem MT:single.leastPlace = -149:=by decide
theorem Fx (r:Nat) (h:r<2139095040):∃ e m:Nat,r=e * 8388608+m∧(m<16777216∧e≤253)∧(1≤e→8388608≤m) ∧
 (∀ neg:Bool,(if r<8388608 then Datum.number neg r (-149) else Datum.number neg (8388608+r % 8388608) (-149+(r / 8388608 - 1:Nat)))=Datum.number neg m (-149+(e:Int))):=by
 by_cases c:r<8388608
 · exact ⟨0,r,by omega,by omega,by omega,fun neg=>by rw [if_pos c];simp⟩
 · exact ⟨r / 8388608 - 1,8388608+r % 8388608,by omega,by omega,by omega,fun neg=>by rw [if_neg c]⟩
theorem oc (x:Nat):(∃ e m:Nat,x % 2147483648=e * 8388608+m∧(m<16777216∧e≤253)∧(1≤e→8388608≤m)∧single.read x=.number (x / 2147483648 % 2 == 1) m (-149+(e:Int))) ∨
 (x % 2147483648=2139095040∧single.read x=.infinity (x / 2147483648 % 2 == 1))∨∃ n f,single.read x=.nan n f:=by
 unfold Format.read;simp only [MU,MZ,MV,MT]
 by_cases h1:x % 2147483648<2139095040
 · obtain ⟨e,m,k1,k2,k3,k4⟩:=Fx _ h1
   refine .inl ⟨e,m,k1,k2,k3,?_⟩
   by_cases h0:x % 2147483648<8388608
   · have:=k4 (x / 2147483648 % 2 == 1);rw [if_pos h0] at this ⊢;exact this
   · have:=k4 (x / 2147483648 % 2 == 1);rw [if_neg h0] at this ⊢;rw [if_pos h1];exact this
 · rw [if_neg (by omega),if_neg h1]
   by_cases h2:x % 2147483648=2139095040
   · rw [if_pos h2];exact .inr (.inl ⟨h2,rfl⟩)
   · rw [if_neg h2];exact .inr (.inr ⟨_,_,rfl⟩)
theorem Fr {a b:Int} (h:compare a b=.eq):a=b:=by
 rw [show compare a b=compareOfLessAndEq a b from rfl] at h
 unfold compareOfLessAndEq at h
 split at h
 · cases h
 · split at h
   · assumption
   · cases h
theorem Js {m n e f:Nat} (hm:m<16777216) (hn:n<16777216) (he:1≤e→8388608≤m) (hf:1≤f→8388608≤n) (h:m * 2 ^ (e - min e f)=n * 2 ^ (f - min e f)):e=f∧m=n:=by
 by_cases c:e=f
 · subst c
   simp at h
   exact ⟨rfl,h⟩
 · exfalso
   by_cases d:e<f
   · rw [Nat.min_eq_left (by omega),Nat.sub_self,Nat.pow_zero,Nat.mul_one] at h
     obtain ⟨k,hk⟩:∃ k,f - e=k+1:=⟨f - e - 1,by omega⟩;rw [hk,Nat.pow_succ] at h;have h8:=hf (by omega)
     have:n * 1≤n * 2 ^ k:=Nat.mul_le_mul_left _ (Nat.one_le_two_pow);have e2:n * (2 ^ k * 2)=2 * (n * 2 ^ k):=by rw [← Nat.mul_assoc,Nat.mul_comm]
     omega
   · rw [Nat.min_eq_right (by omega),Nat.sub_self,Nat.pow_zero,Nat.mul_one] at h
     obtain ⟨k,hk⟩:∃ k,e - f=k+1:=⟨e - f - 1,by omega⟩;rw [hk,Nat.pow_succ] at h;have h8:=he (by omega)
     have:m * 1≤m * 2 ^ k:=Nat.mul_le_mul_left _ (Nat.one_le_two_pow);have e2:m * (2 ^ k * 2)=2 * (m * 2 ^ k):=by rw [← Nat.mul_assoc,Nat.mul_comm]
     omega
theorem IC {s:Bool} {m n k l:Nat} (h:signed s m k=signed s n l):m * 2 ^ k=n * 2 ^ l:=by
 unfold signed at h;simp only [Nat.shiftLeft_eq] at h
 cases s
 · simp at h;exact_mod_cast h
 · simp at h;exact_mod_cast h
theorem It {x y:Nat} (hx:x<4294967296) (hy:y<4294967296) (h:single.order x y=some .eq) (hs:x / 2147483648=y / 2147483648):x=y:=by
 unfold Format.order at h
 rcases oc x with ⟨e,m,k1,k2,k3,k4⟩ | ⟨k1,k4⟩ | ⟨n,f,k4⟩ <;> rcases oc y with ⟨e',m',l1,l2,l3,l4⟩ | ⟨l1,l4⟩ | ⟨n',f',l4⟩
 all_goals rw [k4,l4] at h
 · simp only [Datum.order,Option.some.injEq] at h
   rw [hs] at h;have h2:=IC (Fr h);have e1:((-149+(e:Int)) - min (-149+(e:Int)) (-149+(e':Int))).toNat=e - min e e':=by omega
   have e2:((-149+(e':Int)) - min (-149+(e:Int)) (-149+(e':Int))).toNat=e' - min e e':=by omega
   rw [e1,e2] at h2;obtain ⟨q1,q2⟩:=Js k2.1 l2.1 k3 l3 h2;subst q1 q2;omega
 · simp [Datum.order] at h;split at h <;> cases h
 · simp [Datum.order] at h
 · simp [Datum.order] at h;split at h <;> cases h
 · omega
 · simp [Datum.order] at h
 · simp [Datum.order] at h
 · simp [Datum.order] at h
 · simp [Datum.order] at h
theorem As (neg:Bool) (mag:Nat) (place:Int):∃ g,g≤9218868437227405312∧double.nearest neg mag place=double.word neg g:=by
 have hin:double.infRung=9218868437227405312:=by decide
 unfold Format.nearest
 split
 · exact ⟨0,by omega,rfl⟩
 · rw [hin];exact ⟨_,Nat.min_le_right _ _,rfl⟩
theorem yb (neg:Bool) (g:Nat) (h:g≤9218868437227405312):double.word neg g<18446744073709551616∧(9223372036854775808≤double.word neg g ↔ neg=true):=by
 have hsw:double.signWeight=9223372036854775808:=by decide
 unfold Format.word;rw [hsw]
 cases neg
 · simp;omega
 · simp;omega
theorem yg {x:Nat} (hx:x<4294967296) (hn:¬ ∃ n f,single.read x=.nan n f):∃ r,floatToFloatBits .f32 x .f64=some r∧r<18446744073709551616∧(9223372036854775808≤r ↔ 2147483648≤x):=by
 have hneg:((x / 2147483648 % 2 == 1)=true) ↔ 2147483648≤x:=by rw [beq_iff_eq];omega
 rcases oc x with ⟨e,m,k1,k2,k3,k4⟩ | ⟨k1,k4⟩ | h
 · obtain ⟨g,g1,g2⟩:=As (x / 2147483648 % 2 == 1) m (-149+(e:Int))
   obtain ⟨w1,w2⟩:=yb (x / 2147483648 % 2 == 1) g g1;refine ⟨double.word (x / 2147483648 % 2 == 1) g,?_,w1,by rw [w2,hneg]⟩
   have hr:∃ n' m' p',double.read (double.word (x / 2147483648 % 2 == 1) g)=.number n' m' p':=by
    rw [← g2]
    rcases Nat.eq_zero_or_pos m with h0 | h0
    · subst h0
      have:double.nearest (x / 2147483648 % 2 == 1) 0 (-149+(e:Int))=double.word (x / 2147483648 % 2 == 1) 0:=by
       unfold Format.nearest;rw [if_pos rfl]
      rw [this]
      cases (x / 2147483648 % 2 == 1)
      · exact ⟨false,0,-1074,by decide +kernel⟩
      · exact ⟨true,0,-1074,by decide +kernel⟩
    · obtain ⟨m',p',e',_⟩:=GY (x / 2147483648 % 2 == 1) m (-149+(e:Int)) h0 k2.1 (by omega) (by omega)
      exact ⟨_,m',p',e'⟩
   obtain ⟨n',m',p',e'⟩:=hr;have hw:double.write (.number (x / 2147483648 % 2 == 1) m (-149+(e:Int)))=double.word (x / 2147483648 % 2 == 1) g:=g2;simp [floatToFloatBits,FloatKind.decode,FloatKind.format,FloatKind.encode,k4,hw,e',Datum.isInfinity]
 · obtain ⟨w1,w2⟩:=yb (x / 2147483648 % 2 == 1) 9218868437227405312 (by omega)
   refine ⟨double.word (x / 2147483648 % 2 == 1) 9218868437227405312,?_,w1,by rw [w2,hneg]⟩
   simp [floatToFloatBits,FloatKind.decode,FloatKind.format,FloatKind.encode,k4]
   rfl
 · exact absurd h hn
theorem xZ {x:Nat}:(∃ n f,single.read x=.nan n f) ↔ single.order x x=none:=by
 constructor
 · rintro ⟨n,f,h⟩
   unfold Format.order;rw [h];rfl
 · intro h
   rcases qA (single.read x) with h' | h'
   · exact h'
   · unfold Format.order at h;rw [h] at h';cases h'
theorem DY {x:Nat} (h:¬ ∃ n f,single.read x=.nan n f):single.order x x=some .eq:=by
 rcases qA (single.read x) with h' | h'
 · exact absurd h' h
 · exact h'
theorem zK {x y:Nat} (h:¬ ∃ n f,single.read x=.nan n f) (ho:¬ single.order x y=some .eq):x≠y:=by
 rintro rfl;exact ho (DY h)
open Go.RowKit Ieee
def mG (x:Nat):Bool:=FloatKind.f32.format.order x x != some .eq
def eL (x:Nat):Int:=if mG x then 2143289344 else x
def gn (x y:Nat):Bool:=eL x == eL y
theorem JE {x:Nat}:mG x=true ↔ ∃ n f,single.read x=.nan n f:=by
 have e:FloatKind.f32.format.order x x=single.order x x:=rfl;unfold mG;rw [e]
 rcases qA (single.read x) with h | h
 · exact ⟨fun _=>h,fun _=>by rw [xZ.1 h];rfl⟩
 · have h':single.order x x=some .eq:=h
   rw [h']
   constructor
   · intro h2;simp at h2
   · intro h2;rw [xZ.1 h2] at h';cases h'
theorem wN {x:Nat} (h:mG x=false):¬ ∃ n f,single.read x=.nan n f:=fun h2=>by rw [JE.2 h2] at h;cases h
theorem ri:mG 2143289344=true:=by decide +kernel
theorem Gi (b:Nat) (w:World):(callFunc 113 #[.float .f32 b]).run Tryz.prog w=.ok (.value (.int .u32 b)) w:=by
 rw [run_callFunc_extern (P:=Tryz.prog) (e:=Extern.MathFloatBits.float32bits) Tryz.func113 (by kernel_rfl) (by kernel_rfl) (by kernel_rfl) (by kernel_rfl)]
 rfl
theorem FP (b:Nat) (w:World):(callFunc 106 #[.float .f64 b]).run Tryz.prog w=.ok (.value (.int .u64 b)) w:=by
 rw [run_callFunc_extern (P:=Tryz.prog) (e:=Extern.MathFloatBits.float64bits) Tryz.func106 (by kernel_rfl) (by kernel_rfl) (by kernel_rfl) (by kernel_rfl)]
 rfl
theorem sX (r:Nat) (hr:r<18446744073709551616) (w:World):Calls Tryz.prog 80 #[.float .f64 r] w fun e w'=>e=.returned (.bool (decide (9223372036854775808≤r)))∧w=w':=by
 have hd:=fun v=>FP r v
 by_cases h:9223372036854775808≤r
 · have hw:IntKind.i64.wrap (r:Int)=(r:Int) - 18446744073709551616:=by
     have e:(r:Int) % 2 ^ 64=r:=by omega
     simp only [IntKind.wrap,IntKind.bits,IntKind.signed,e];rw [if_pos (by simp;omega)];omega
   have HF:Hid (decide ((r:Int) - 18446744073709551616<0)=decide (9223372036854775808≤r)):=by
    show _=_
    rw [decide_eq_true h,decide_eq_true (by omega)]
   clear h
   go_enter Tryz.func80,Tryz.ntmps80;go_wp2_with fail;go_ret;exact ⟨av HF.out,rfl⟩
 · have hw:IntKind.i64.wrap (r:Int)=(r:Int):=by
     have e:(r:Int) % 2 ^ 64=r:=by omega
     simp only [IntKind.wrap,IntKind.bits,IntKind.signed,e];rw [if_neg (by simp;omega)]
   have HF:Hid (decide ((r:Int)<0)=decide (9223372036854775808≤r)):=by
    show _=_
    rw [decide_eq_false h,decide_eq_false (by omega)]
   have h':r<9223372036854775808:=by omega
   clear h
   go_enter Tryz.func80,Tryz.ntmps80;go_wp2_with fail;go_ret;exact ⟨av HF.out,rfl⟩
theorem Bq (x:Nat) (hx:x<4294967296) (w:World):Calls Tryz.prog 122 #[.float .f32 x] w fun e w'=>e=.returned (.int .i64 (eL x))∧w=w':=by
 have hd:=fun v=>Gi x v
 cases h:mG x with
 | true =>
   have ht:(FloatKind.f32.format.order x x != some .eq)=true:=h;have HF:Hid (eL x=2143289344):=by simp [Hid,eL,h]
   clear h
   go_enter Tryz.func122,Tryz.ntmps122;go_wp2_with fail;go_ret;exact ⟨ce HF.out.symm,rfl⟩
 | false =>
   have ht:(FloatKind.f32.format.order x x != some .eq)=false:=h;have HF:Hid (eL x=x):=by simp [Hid,eL,h]
   clear h
   go_enter Tryz.func122,Tryz.ntmps122;go_wp2_with fail;go_ret;exact ⟨ce HF.out.symm,rfl⟩
theorem wk (x y:Nat) (hx:x<4294967296) (hy:y<4294967296) (w:World):Calls Tryz.prog 40 #[.float .f32 x,.float .f32 y] w fun e w'=>e=.returned (.bool (gn x y))∧w=w':=by
 cases h:mG x with
 | true =>
   have ht:(FloatKind.f32.format.order x x != some .eq)=true:=h
   cases g:mG y with
   | true =>
     have gt:(FloatKind.f32.format.order y y != some .eq)=true:=g;have HF:Hid (gn x y=true):=by simp [Hid,gn,eL,h,g]
     clear h g
     go_enter Tryz.func40,Tryz.ntmps40;go_wp2_with fail;go_ret;exact ⟨av HF.out.symm,rfl⟩
   | false =>
     have gt:(FloatKind.f32.format.order y y != some .eq)=false:=g;have HF:Hid (gn x y=false):=by
      show _=_
      have:eL x=2143289344:=by simp [eL,h]
      have e2:eL y=y:=by simp [eL,g]
      unfold gn;rw [this,e2,beq_eq_false_iff_ne];intro e;have:y=2143289344:=by omega
      rw [this,ri] at g;cases g
     clear h g
     go_enter Tryz.func40,Tryz.ntmps40;go_wp2_with fail;go_ret;exact ⟨av HF.out.symm,rfl⟩
 | false =>
   have ht:(FloatKind.f32.format.order x x != some .eq)=false:=h
   cases g:mG y with
   | true =>
     have gt:(FloatKind.f32.format.order y y != some .eq)=true:=g;have HF:Hid (gn x y=false):=by
      show _=_
      have:eL y=2143289344:=by simp [eL,g]
      have e2:eL x=x:=by simp [eL,h]
      unfold gn;rw [this,e2,beq_eq_false_iff_ne];intro e;have:x=2143289344:=by omega
      rw [this,ri] at h;cases h
     clear h g
     go_enter Tryz.func40,Tryz.ntmps40;go_wp2_with fail;go_ret;exact ⟨av HF.out.symm,rfl⟩
   | false =>
     have gt:(FloatKind.f32.format.order y y != some .eq)=false:=g;have HS:Hid (gn x y=decide (x=y)):=by
      show _=_
      have e1:eL x=x:=by simp [eL,h]
      have e2:eL y=y:=by simp [eL,g]
      unfold gn;rw [e1,e2,Bool.eq_iff_iff,beq_iff_eq,decide_eq_true_iff];omega
     cases o:(FloatKind.f32.format.order x y == some .eq) with
     | false =>
       have HF:Hid (gn x y=false):=by
        show _=_
        rw [HS.out];refine decide_eq_false (zK (wN h) ?_)
        intro e;have e':FloatKind.f32.format.order x y=some .eq:=e;rw [e'] at o;cases o
       clear h g
       go_enter Tryz.func40,Tryz.ntmps40;go_wp2_with fail;go_ret;exact ⟨av HF.out.symm,rfl⟩
     | true =>
       have ho:single.order x y=some .eq:=by
        have o':FloatKind.f32.format.order x y=some .eq:=by simpa using o
        exact o'
       obtain ⟨r,r1,r2,r3⟩:=yg hx (wN h);obtain ⟨s,s1,s2,s3⟩:=yg hy (wN g);have c1:∀ v:World,(convert 79 134 (.float .f32 x)).run Tryz.prog v=.ok (.float .f64 r) v:=fun v=>run_convert_float_float _ _ _ _ _ _ _ (by kernel_rfl) Tryz.underlying134 r1
       have c2:∀ v:World,(convert 79 134 (.float .f32 y)).run Tryz.prog v=.ok (.float .f64 s) v:=fun v=>run_convert_float_float _ _ _ _ _ _ _ (by kernel_rfl) Tryz.underlying134 s1
       have L1:=Na (sX r r2 w);have L2:=Na (sX s s2 w);have HF:Hid (gn x y=(decide (9223372036854775808≤r) == decide (9223372036854775808≤s))):=by
        show _=_
        rw [HS.out,Bool.eq_iff_iff,decide_eq_true_iff,beq_iff_eq,decide_eq_decide,r3,s3]
        constructor
        · rintro rfl;exact Iff.rfl
        · intro e
          exact It hx hy ho (by omega)
       clear h g r1 s1 ho r3 s3;generalize decide (9223372036854775808≤r)=br at *
       generalize decide (9223372036854775808≤s)=bs' at *
       go_enter Tryz.func40,Tryz.ntmps40;go_wp2_with fail;refine L1.out.mono ?_;rintro e w1 ⟨rfl,rfl⟩;go_wp2_with fail;refine L2.out.mono ?_;rintro e w1 ⟨rfl,rfl⟩;go_wp2_with fail;go_ret;exact ⟨av HF.out.symm,rfl⟩
def da (d:Nat):UInt8:=if d<10 then UInt8.ofNat (48+d) else UInt8.ofNat (87+d)
def dw:Nat→Nat→List UInt8
 | 0,_=>[]
 | k+1,u=>dw k (u / 16) ++ [da (u % 16)]
def dz (u:Nat):List UInt8:=if u<16 then [da u] else dz (u / 16) ++ [da (u % 16)]
termination_by u
decreasing_by omega
theorem js {u:Nat} (h:u<16):dz u=[da u]:=by rw [dz,if_pos h]
theorem pg {u:Nat} (h:¬ u<16):dz u=dz (u / 16) ++ [da (u % 16)]:=by rw [dz,if_neg h]
theorem zY:∀ k u,(dw k u).length=k
 | 0,_=>rfl
 | k+1,u=>by rw [dw,List.length_append,zY k];rfl
theorem tQ (u:Nat):1≤(dz u).length:=by
 by_cases h:u<16
 · rw [js h];simp
 · rw [pg h];simp
theorem uf:∀ k u,u<16 ^ (k+1)→(dz u).length≤k+1
 | 0,u,h=>by rw [js (by omega)];simp
 | k+1,u,h=>by
   by_cases h16:u<16
   · rw [js h16];simp
   · rw [pg h16,List.length_append,List.length_singleton]
     have:=uf k (u / 16) (by rw [Nat.div_lt_iff_lt_mul (by omega)];rw [Nat.pow_succ] at h;exact h)
     omega
theorem wP:∀ k,dw k 0=List.replicate k 48
 | 0=>rfl
 | k+1=>by
   rw [dw,Nat.zero_div,wP k,Nat.zero_mod,List.replicate_succ'];rfl
theorem CR:∀ k u,u<16 ^ (k+1)→List.replicate (k+1 - (dz u).length) 48 ++ dz u=dw (k+1) u
 | 0,u,h=>by
   rw [js (by omega),dw,dw,Nat.mod_eq_of_lt (by omega)];rfl
 | k+1,u,h=>by
   by_cases h16:u<16
   · rw [js h16,dw,Nat.div_eq_of_lt h16,wP,Nat.mod_eq_of_lt h16];rfl
   · have hd:u / 16<16 ^ (k+1):=by rw [Nat.div_lt_iff_lt_mul (by omega)];rw [Nat.pow_succ] at h;exact h
     have ih:=CR k (u / 16) hd;have hp:=tQ (u / 16);rw [pg h16,dw,← ih,List.length_append,List.length_singleton,← List.append_assoc]
     congr 3
     omega
def zB (u:Nat):List UInt8:=dw 8 u
theorem I4 (u:Nat):(zB u).length=8:=zY 8 u
theorem Je {u:Nat} (h:u<4294967296):(dz u).length≤8∧List.replicate (8 - (dz u).length) 48 ++ dz u=zB u:=⟨uf 7 u (by omega),CR 7 u (by omega)⟩
theorem Ex (d:Nat) (h:d<16):(48≤(da d).toNat∧(da d).toNat≤57)∨(97≤(da d).toNat∧(da d).toNat≤102) :=
 (by decide:∀ q:Fin 16,(48≤(da q).toNat∧(da q).toNat≤57)∨(97≤(da q).toNat∧(da q).toNat≤102)) ⟨d,h⟩
theorem A9:∀ k u b,b∈dw k u→(48≤b.toNat∧b.toNat≤57)∨(97≤b.toNat∧b.toNat≤102)
 | 0,_,b,h=>by cases h
 | k+1,u,b,h=>by
   rw [dw] at h
   rcases List.mem_append.1 h with h | h
   · exact A9 k _ b h
   · rw [List.mem_singleton] at h
     rw [h];exact Ex _ (Nat.mod_lt _ (by omega))
def ep (b:UInt8):Nat:=(b ||| 32).toNat
def fN (b:UInt8):Option Nat:=if 48≤b.toNat∧b.toNat≤57 then some (b.toNat - 48) else if 97≤ep b∧ep b≤102 then some (ep b - 87) else none
def dy:Nat→List UInt8→Option Nat
 | n,[]=>some n
 | n,b :: l=>match fN b with
   | none=>none
   | some d=>dy (16 * n+d) l
def ix (l:List UInt8):Nat:=(dy 0 l).getD 0
theorem L9 (d:Nat) (h:d<16):fN (da d)=some d :=
 (by decide:∀ q:Fin 16,fN (da q)=some q.1) ⟨d,h⟩
theorem Ll {b:UInt8} {d:Nat} (h:fN b=some d):d<16:=by
 unfold fN at h
 split at h
 · injection h with h;omega
 · split at h
   · injection h with h;omega
   · cases h
theorem pb:∀ (l m:List UInt8) (n:Nat),dy n (l ++ m)=(dy n l).bind fun k=>dy k m
 | [],m,n=>rfl
 | b :: l,m,n=>by
   rw [List.cons_append,dy,dy]
   cases fN b with
   | none=>rfl
   | some d=>exact pb l m _
theorem Dg:∀ k u,u<16 ^ k→dy 0 (dw k u)=some u
 | 0,u,h=>by
     have:u=0:=by omega
     subst this;rfl
 | k+1,u,h=>by
   have hd:u / 16<16 ^ k:=by rw [Nat.div_lt_iff_lt_mul (by omega)];rw [Nat.pow_succ] at h;exact h
   rw [dw,pb,Dg k _ hd]
   show dy (u / 16) [da (u % 16)]=some u
   rw [dy,L9 _ (Nat.mod_lt _ (by omega))]
   show some (16 * (u / 16)+u % 16)=some u
   congr 1;omega
theorem Lk {u:Nat} (h:u<4294967296):ix (zB u)=u:=by
 unfold ix zB;rw [Dg 8 u (by omega)];rfl
theorem tT:∀ (l:List UInt8) (n m:Nat),dy n l=some m→m<(n+1) * 16 ^ l.length
 | [],n,m,h=>by rw [dy] at h;injection h with h;subst h;simp
 | b :: l,n,m,h=>by
   rw [dy] at h
   cases hv:fN b with
   | none=>rw [hv] at h;cases h
   | some d =>
     rw [hv] at h;have h1:=tT l _ _ h;have h2:=Ll hv;have h3:(16 * n+d+1) * 16 ^ l.length≤((n+1) * 16) * 16 ^ l.length:=Nat.mul_le_mul_right _ (by omega)
     rw [List.length_cons,Nat.pow_succ,Nat.mul_comm (16 ^ l.length) 16,← Nat.mul_assoc];omega
theorem zM {l:List UInt8} (h:l.length=8):ix l<4294967296:=by
 unfold ix
 cases hr:dy 0 l with
 | none=>simp
 | some m =>
   have:=tT l 0 m hr;rw [h] at this;simpa using this
def bz (x:Nat):Nat:=if mG x then 2143289344 else x
theorem F4 (x:Nat):eL x=(bz x:Int):=by unfold eL bz;split <;> rfl
theorem uq {x:Nat} (h:x<4294967296):bz x<4294967296:=by unfold bz;split <;> omega
theorem Cw (x:Nat):bz (bz x)=bz x:=by
 by_cases h:mG x=true
 · have e:bz x=2143289344:=by unfold bz;rw [if_pos h]
   rw [e];unfold bz;rw [ri];rfl
 · have e:bz x=x:=by unfold bz;rw [if_neg h]
   rw [e,e]
def db (x:Nat):List UInt8:=zB (bz x)
theorem kj (x:Nat):(db x).length=8:=I4 _
def ba (xs:List Nat):List UInt8:=if xs=[] then lJ else Lib.join (xs.map db) [44]
def lf (p:List UInt8):Option Nat:=if p.length=8 then some (ix p) else none
def eM (l:List UInt8):Option (List Nat):=match di lf (dJ l) with
 | none=>none
 | some xs=>if xs.length≤256∧ba xs=l then some xs else none
theorem mH {l:List UInt8} (h:di lf (dJ l)=none):eM l=none:=by unfold eM;rw [h]
theorem jL {l:List UInt8} {xs:List Nat} (h:di lf (dJ l)=some xs):eM l=if xs.length≤256∧ba xs=l then some xs else none:=by unfold eM;rw [h]
theorem yp {l:List UInt8} (h:256<(dJ l).length):eM l=none:=by
 cases ha:di lf (dJ l) with
 | none=>exact mH ha
 | some xs=>rw [jL ha,if_neg];rintro ⟨h1,_⟩;have:=qp ha;omega
theorem xg {p:List UInt8} (h:p.length=8):lf p=some (ix p):=if_pos h
theorem Iz {p:List UInt8} (h:p.length≠8):lf p=none:=if_neg h
theorem uh {α β:Type} {f:α→Option β} {Q:β→Prop} (hq:∀ x y,f x=some y→Q y):∀ {xs:List α} {ys:List β},di f xs=some ys→∀ y∈ys,Q y
 | [],ys,h,y,hy=>by rw [di] at h;injection h with h;subst h;cases hy
 | x :: xs,ys,h,y,hy=>by
   cases hx:f x with
   | none=>rw [pm hx] at h;cases h
   | some z =>
     rw [je hx] at h
     cases hr:di f xs with
     | none=>rw [hr] at h;cases h
     | some zs =>
       rw [hr] at h;injection h with h
       subst h
       rcases List.mem_cons.1 hy with rfl | hy
       · exact hq x _ hx
       · exact uh hq hr y hy
theorem Dn {p:List UInt8} {x:Nat} (h:lf p=some x):x<4294967296:=by
 unfold lf at h
 split at h
 · rename_i hl
   injection h with h
   rw [← h];exact zM hl
 · cases h
theorem rA {l:List UInt8} {xs:List Nat} (h:eM l=some xs):xs.length≤256∧ba xs=l∧∀ x∈xs,x<4294967296:=by
 cases ha:di lf (dJ l) with
 | none=>rw [mH ha] at h;cases h
 | some ys =>
   rw [jL ha] at h
   split at h
   · rename_i hc
     injection h with h
     subst h;exact ⟨hc.1,hc.2,uh (fun p y hy=>Dn hy) ha⟩
   · cases h
theorem qd (xs:List Nat):(ba xs).length≤9 * xs.length+4:=by
 unfold ba
 split
 · simp [lJ]
 · have:=km (m:=8) (xs:=xs.map db) (sep:=[44]) (fun x hx=>by
     obtain ⟨y,_,rfl⟩:=List.mem_map.1 hx;rw [kj];exact Nat.le_refl _)
   rw [List.length_map] at this;simp at this;omega
theorem tZ {x:Nat} {b:UInt8} (h:b∈db x):(48≤b.toNat∧b.toNat≤57)∨(97≤b.toNat∧b.toNat≤102):=A9 8 _ b h
theorem bG (a b:List UInt8):bs a ++ bs b=bs (a ++ b):=by
 apply Ik
 rw [ByteArray.data_append];simp [bs]
theorem Hu {xs:List Int} {x:Int} (h:xs[0]? = some x):Lib.join ((xs.take 1).map Lib.itoa) [44]=Lib.itoa x:=by
 cases xs with
 | nil=>simp at h
 | cons y r=>simp at h;subst h;simp [Lib.join_one]
theorem fl (w:World) (a:Option Addr) (c:Nat) (xs:List Int) (h:Rd w w.heap.size a (ae xs)) (hl:xs.length≤1048576) (hr:∀ x∈xs,-9223372036854775808≤x∧x≤9223372036854775807) :
 Calls Tryz.prog 96 #[.slice a xs.length c] w fun e w'=>e=.returned (.string (bs (az xs)))∧Below w.heap.size w w':=by
 by_cases he:xs=[]
 · subst he
   go_enter Tryz.func96,Tryz.ntmps96;go_wp2_with fail;go_ret;exact ⟨rfl,Below.refl _ _⟩
 · have h1:1≤xs.length:=by
     rcases Nat.eq_zero_or_pos xs.length with e | e
     · exact absurd (List.eq_nil_of_length_eq_zero e) he
     · exact e
   have HE:Hid (az xs=Lib.join (xs.map Lib.itoa) [44]):=by
    show _=_
    unfold az;rw [if_neg he]
   have HR:=Na hr;have HA:=Na h;obtain ⟨b,o,x,rfl,hbb,hck,hx⟩:=h.get (k:=0) (by omega)
   have LD:=Na (mP w x (hr x (List.mem_of_getElem? hx.out)).1 (hr x (List.mem_of_getElem? hx.out)).2);have HH:=Na (Hu hx.out);rw [Nat.add_zero] at hck;clear he hr h
   go_enter Tryz.func96,Tryz.ntmps96;go_wp2_with fail;refine LD.out.mono ?_;rintro e w1 ⟨rfl,hb1⟩;clear hck;go_wp2_with fail
   go_loopw [3,4] (fun v iv wr=>∃ k:Nat,1≤k∧k≤xs.length∧iv=.int .i64 k∧v=.string (bs (Lib.join ((xs.take k).map Lib.itoa) [44]))∧Below w.heap.size w wr) (fun _ iv _=>xs.length - (intOf iv).toNat)
   case atStart=>exact ⟨1,Nat.le_refl _,h1,rfl,by rw [HH.out],hb1⟩
   case round =>
    clear hb1;obtain ⟨k,hk1,hk,rfl,rfl,hw⟩:=hrel;have hws:=hw.size
    by_cases hlt:k<xs.length
    · obtain ⟨b',o',x',ea,hbb',hck,hx'⟩:=(HA.out.to hw).get hlt
      injection ea with ea
      injection ea with ea1 ea2 _
      subst ea1 ea2;have LD':=Na (mP wr x' (HR.out x' (List.mem_of_getElem? hx'.out)).1 (HR.out x' (List.mem_of_getElem? hx'.out)).2);have HN:=Na (xx (xs:=xs.map Lib.itoa) (sep:=[44]) hk1 (y:=Lib.itoa x') (by rw [List.getElem?_map,hx'.out];rfl))
      rw [← List.map_take,← List.map_take] at HN;have hp1:=bG [44] (Lib.itoa x');have hp2:=bG (Lib.join ((xs.take k).map Lib.itoa) [44]) ([44] ++ Lib.itoa x');rw [← HN.out] at hp2;have z1:(bs (Lib.itoa x')).size≤21:=by
       rw [aI];exact iA (HR.out x' (List.mem_of_getElem? hx'.out)).1 (HR.out x' (List.mem_of_getElem? hx'.out)).2
      have z2:(bs (Lib.join ((xs.take k).map Lib.itoa) [44])).size≤100000000:=by
       have:=km (m:=21) (xs:=(xs.take k).map Lib.itoa) (sep:=[44]) (fun x hx=>by
        obtain ⟨y,hy,rfl⟩:=List.mem_map.1 hx;have:=HR.out y (List.mem_of_mem_take hy);exact iA this.1 this.2)
       rw [List.length_map,List.length_take] at this;rw [aI];refine Nat.le_trans this (Nat.le_trans (Nat.mul_le_mul_left _ (Nat.min_le_left _ _)) ?_)
       show (21+1) * k≤100000000
       have hk3:k≤1048576:=Nat.le_trans hk hl;omega
      generalize Lib.join ((xs.take k).map Lib.itoa) [44]=J at *
      go_wp2_with fail;refine LD'.out.mono ?_;rintro e w2 ⟨rfl,hb2⟩;have hw2:=hw.trans (hb2.mono hws);clear hb2 hw hck;go_wp2_with fail;go_roundw
      case rel=>exact ⟨k+1,by omega,by omega,by go_num,by rw [← hp2,← hp1];rfl,hw2⟩
      case measure=>first | (simp [intOf];done) | (simp [intOf];omega)
    · have:k=xs.length:=by omega
      subst this;have HE2:Hid (Lib.join ((xs.take xs.length).map Lib.itoa) [44]=az xs):=by rw [Hid,List.take_length];exact HE.out.symm
      rw [HE2.out];go_wp2_with fail;go_ret;exact ⟨rfl,hw⟩
end Go.Proofs.YtbknhgapjjaelaaGreatDoor
