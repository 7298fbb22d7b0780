/-
  Part 3 of what the proof stands on: lemmas and contracts, each with its conditions ahead of the colon.
-/
import Derived.Lib.ParseIntB
import Derived.Lib.ParseIntBCases
import Derived.Shelf.Strconv.ParseIntPublic10
import Derived.Deep.RegionHeld3
import Derived.Deep.RegionHeldLaw
import Derived.RegionTactic
import Derived.Test.YtbknhgapjjaelaaGreatDoorPj01
import Derived.Test.YtbknhgapjjaelaaGreatDoorPj02
set_option maxRecDepth 200000
set_option maxHeartbeats 8000000
namespace Go.Proofs.YtbknhgapjjaelaaGreatDoor
set_option linter.unusedVariables false
set_option linter.unusedSimpArgs false
open Go.RowKit
def ET (n:Int) (b:UInt8):Int:=if 48≤b.toNat∧b.toNat≤57 then 10 * n+((b.toNat:Int) - 48) else n
def ul (l:List UInt8):Int:=l.foldl ET 0
def A9 (l:List UInt8):Int:=if l[0]? = some 45 then - ul l else ul l
def lv:Int:=1000000000000000
def eF (l:List UInt8):Option Int:=if -lv≤A9 l∧A9 l≤lv∧Lib.itoa (A9 l)=l then some (A9 l) else none
theorem ig (q:Nat) (h:q<10):(UInt8.ofNat (48+q)).toNat=48+q:=uR q h
theorem Ag (u:Nat):(Lib.decDigits u).foldl ET 0=(u:Int):=by
 induction u using Nat.strongRecOn with
 | ind u ih =>
   rw [Lib.decDigits]
   split
   · rename_i h
     simp only [List.foldl_cons,List.foldl_nil,ET];rw [ig u h,if_pos (by omega)]
     omega
   · rename_i h
     rw [List.foldl_append,ih (u / 10) (by omega)]
     simp only [List.foldl_cons,List.foldl_nil,ET];rw [ig (u % 10) (by omega),if_pos (by omega)]
     omega
theorem sH (u:Nat):1≤(Lib.decDigits u).length:=by
 rw [Lib.decDigits];split <;> simp
theorem Ah:∀ (u:Nat) (c:UInt8),(Lib.decDigits u)[0]? = some c→48≤c.toNat∧c.toNat≤57:=by
 intro u
 induction u using Nat.strongRecOn with
 | ind u ih =>
   intro c hc;rw [Lib.decDigits] at hc
   split at hc
   · rename_i h
     injection hc with hc
     rw [← hc,ig u h];omega
   · rename_i h
     rw [List.getElem?_append_left (by have:=sH (u / 10);omega)] at hc
     exact ih (u / 10) (by omega) c hc
theorem qt {n:Int} (h:0≤n):Lib.itoa n=Lib.decDigits n.toNat:=by unfold Lib.itoa;rw [if_neg (by omega)]
theorem sK {n:Int} (h:n<0):Lib.itoa n=45 :: Lib.decDigits n.natAbs:=by unfold Lib.itoa;rw [if_pos h]
theorem Kh (n:Int):A9 (Lib.itoa n)=n:=by
 rcases Int.lt_or_le n 0 with h | h
 · rw [sK h]
   unfold A9;rw [if_pos (by simp)]
   have:ul (45 :: Lib.decDigits n.natAbs)=ul (Lib.decDigits n.natAbs):=by
    unfold ul;rw [List.foldl_cons];rfl
   rw [this];unfold ul;rw [Ag];omega
 · rw [qt h]
   unfold A9;rw [if_neg (fun e=>by have:=Ah _ _ e;simp at this)]
   unfold ul;rw [Ag];omega
theorem Jp {n:Int} (h0:-lv≤n) (h1:n≤lv):eF (Lib.itoa n)=some n:=by
 unfold eF;rw [Kh,if_pos ⟨h0,h1,rfl⟩]
theorem Jq {l:List UInt8} {n:Int} (h:eF l=some n):Lib.itoa n=l∧-lv≤n∧n≤lv:=by
 unfold eF at h
 split at h
 · rename_i h2
   injection h with h
   subst h;exact ⟨h2.2.2,h2.1,h2.2.1⟩
 · cases h
theorem Lp {l:List UInt8} {n:Int} (h:Lib.itoa n=l) (h0:-lv≤n) (h1:n≤lv):eF l=some n:=h ▸ Jp h0 h1
theorem xj {l:List UInt8} (h:∀ n,-lv≤n→n≤lv→Lib.itoa n≠l):eF l=none:=by
 cases hv:eF l with
 | none=>rfl
 | some n =>
   obtain ⟨h1,h2,h3⟩:=Jq hv;exact absurd h1 (h n h2 h3)
theorem IB:∀ (u:Nat),u≤1000000000000000000→∀ r:List UInt8,Lib.parseUint10 0 (Lib.decDigits u ++ r)=Lib.parseUint10 u r:=by
 intro u
 induction u using Nat.strongRecOn with
 | ind u ih =>
   intro hu r;rw [Lib.decDigits]
   split
   · rename_i h
     show Lib.parseUint10 0 (UInt8.ofNat (48+u) :: r)=_
     rw [Lib.parseUint10,ig u h,if_pos (by omega),if_neg (by omega),if_neg (by omega)]
     congr 1;omega
   · rename_i h
     rw [List.append_assoc,ih (u / 10) (by omega) (by omega)]
     show Lib.parseUint10 (u / 10) (UInt8.ofNat (48+u % 10) :: r)=_
     rw [Lib.parseUint10,ig (u % 10) (by omega),if_pos (by omega),if_neg (by omega),if_neg (by omega)]
     congr 1;omega
theorem vx {u:Nat} (hu:u≤1000000000000000000):Lib.parseUintB 64 (Lib.decDigits u)=.ok u:=by
 rw [Lib.parseUintB_64];unfold Lib.parseMag;rw [if_neg (by intro e;have:=sH u;rw [e] at this;simp at this)]
 have:=IB u hu [];rw [List.append_nil] at this;rw [this];rfl
theorem qO {n:Int} (h0:-lv≤n) (h1:n≤lv):Lib.parseIntB 64 (Lib.itoa n)=.ok n:=by
 unfold lv at *
 rcases Int.lt_or_le n 0 with h | h
 · rw [sK h,Lib.parseIntB_minus,vx (by omega)]
   simp only [Lib.signedC];rw [if_neg (by omega)]
   congr 1;omega
 · rw [qt h]
   cases hd:Lib.decDigits n.toNat with
   | nil=>have:=sH n.toNat;rw [hd] at this;simp at this
   | cons c r =>
     have hc:=Ah n.toNat c (by rw [hd];rfl)
     rw [Lib.parseIntB_plain 64 c r (by omega) (by omega),← hd,vx (by omega)]
     simp only [Lib.signlessC];rw [if_neg (by omega)]
     congr 1;omega
def dE {α β:Type} (f:α→Option β):List α→Option (List β)
 | []=>some []
 | x :: xs=>match f x with
   | none=>none
   | some y=>(dE f xs).map (y :: ·)
theorem oU {α β:Type} {f:α→Option β} {x:α} {xs:List α} (h:f x=none):dE f (x :: xs)=none:=by rw [dE,h]
theorem oZ {α β:Type} {f:α→Option β} {x:α} {xs:List α} {y:β} (h:f x=some y):dE f (x :: xs)=(dE f xs).map (y :: ·):=by rw [dE,h]
theorem qk {α β:Type} {f:α→Option β}:∀ {xs:List α} {ys:List β},dE f xs=some ys→ys.length=xs.length
 | [],ys,h=>by rw [dE] at h;injection h with h;rw [← h];rfl
 | x :: xs,ys,h=>by
   cases hx:f x with
   | none=>rw [oU hx] at h;cases h
   | some y =>
     rw [oZ hx] at h
     cases hr:dE f xs with
     | none=>rw [hr] at h;cases h
     | some zs =>
       rw [hr] at h;injection h with h
       rw [← h,List.length_cons,List.length_cons,qk hr]
def Till {α β:Type} (f:α→Option β) (xs:List α) (k:Nat) (d:List β):Prop:=dE f xs=(dE f (xs.drop k)).map (d ++ ·)
theorem Till.start {α β:Type} (f:α→Option β) (xs:List α):Till f xs 0 []:=by
 unfold Till;rw [List.drop_zero];cases dE f xs <;> simp
theorem Till.step {α β:Type} {f:α→Option β} {xs:List α} {k:Nat} {d:List β} {x:α} {y:β} (h:Till f xs k d) (hx:xs[k]? = some x) (hy:f x=some y):Till f xs (k+1) (d ++ [y]):=by
 unfold Till at *
 have hk:=(List.getElem?_eq_some_iff.1 hx).1;have e:xs.drop k=x :: xs.drop (k+1):=by
  rw [List.drop_eq_getElem_cons hk];rw [List.getElem?_eq_getElem hk] at hx;injection hx with hx
  rw [hx]
 rw [h,e,oZ hy]
 cases dE f (xs.drop (k+1)) <;> simp
theorem Till.stop {α β:Type} {f:α→Option β} {xs:List α} {k:Nat} {d:List β} {x:α} (h:Till f xs k d) (hx:xs[k]? = some x) (hy:f x=none):dE f xs=none:=by
 unfold Till at h;have hk:=(List.getElem?_eq_some_iff.1 hx).1;have e:xs.drop k=x :: xs.drop (k+1):=by
  rw [List.drop_eq_getElem_cons hk];rw [List.getElem?_eq_getElem hk] at hx;injection hx with hx
  rw [hx]
 rw [h,e,oU hy];rfl
theorem Till.done {α β:Type} {f:α→Option β} {xs:List α} {d:List β} (h:Till f xs xs.length d):dE f xs=some d:=by
 unfold Till at h;rw [h,List.drop_length];simp [dE]
def sM:List UInt8:=[110,111,110,101]
def ex (l:List UInt8):List (List UInt8):=if l=sM then [] else cH 44 l
def dD (l:List UInt8):Option (List Int):=match dE eF (ex l) with
 | none=>none
 | some ns=>if ns.length≤64 then some ns else none
theorem Ir {l:List UInt8} (h:dE eF (ex l)=none):dD l=none:=by unfold dD;rw [h]
theorem Fu {l:List UInt8} (h:64<(ex l).length):dD l=none:=by
 unfold dD
 cases ha:dE eF (ex l) with
 | none=>rfl
 | some ns=>have:=qk ha;simp only;rw [if_neg (by omega)]
theorem Fv {l:List UInt8} {ns:List Int} (h:dE eF (ex l)=some ns) (hl:ns.length≤64):dD l=some ns:=by unfold dD;rw [h];simp only;rw [if_pos hl]
theorem ky {l:List UInt8} {ns:List Int} (h:dD l=some ns):ns.length≤64:=by
 unfold dD at h
 cases ha:dE eF (ex l) with
 | none=>rw [ha] at h;cases h
 | some ms =>
   rw [ha] at h;simp only at h
   split at h
   · injection h with h;rw [← h];assumption
   · cases h
theorem Bo (l:List UInt8):(ex l).length≤l.length+1:=by
 unfold ex;split
 · simp
 · exact uj 44 l
theorem Bp {l p:List UInt8} (h:p∈ex l):p.length≤l.length:=by
 unfold ex at h;split at h
 · cases h
 · exact ji h
def eT (cnt:Nat) (l:List UInt8):Option (List (List Int)):=match dE dD (cH 59 l) with
 | none=>none
 | some yss=>if yss.length=cnt∧(yss.getD 0 []).length=2 then some yss else none
theorem tU {cnt:Nat} {l:List UInt8} (h:dE dD (cH 59 l)=none):eT cnt l=none:=by unfold eT;rw [h]
theorem tV {cnt:Nat} {l:List UInt8} {yss:List (List Int)} (h:dE dD (cH 59 l)=some yss):eT cnt l=if yss.length=cnt∧(yss.getD 0 []).length=2 then some yss else none:=by unfold eT;rw [h]
theorem kW {cnt:Nat} {l:List UInt8} {yss:List (List Int)} (h:eT cnt l=some yss):yss.length=cnt∧(yss.getD 0 []).length=2∧(∀ y∈yss,y.length≤64):=by
 cases ha:dE dD (cH 59 l) with
 | none=>rw [tU ha] at h;cases h
 | some zs =>
   rw [tV ha] at h
   split at h
   · rename_i h2
     injection h with h
     subst h;refine ⟨h2.1,h2.2,?_⟩
     have key:∀ (xs:List (List UInt8)) (ys:List (List Int)),dE dD xs=some ys→∀ y∈ys,y.length≤64:=by
      intro xs
      induction xs with
      | nil=>intro ys hh y hy;rw [dE] at hh;injection hh with hh;subst hh;cases hy
      | cons x xs ih =>
        intro ys hh y hy
        cases hx:dD x with
        | none=>rw [oU hx] at hh;cases hh
        | some n =>
          rw [oZ hx] at hh
          cases hr:dE dD xs with
          | none=>rw [hr] at hh;cases hh
          | some ms =>
            rw [hr] at hh;injection hh with hh
            subst hh
            rcases List.mem_cons.1 hy with e | e
            · subst e;exact ky hx
            · exact ih ms hr y e
     exact key _ _ ha
   · cases h
def ww (T:Nat) (w:World) (r:Option (List Int)) (e:Ending) (w':World):Prop :=
 Below w.heap.size w w'∧match r with
  | none=>e=.returned (.tuple #[.slice none 0 0,.bool false])
  | some xs=>∃ g c,e=.returned (.tuple #[.slice (some ⟨g,0,none⟩) xs.length c,.bool true])∧w'.ownsRow w.heap.size T 1 (.slice (some ⟨g,0,none⟩) xs.length c) xs.length (ae xs)
theorem fm {w:World} {base e:Nat} {v:Value} {n:Nat} {xs:List Value} (h:w.ownsRow base e 1 v n xs) (hn:1≤n):∃ g c,v=.slice (some ⟨g,0,none⟩) n c:=by
 rcases h.2 with ⟨h2,h3⟩ | ⟨g,cap,cur,hv,_⟩
 · exact absurd h3 (by omega)
 · exact ⟨g,cap,hv⟩
def Errs (w:World):Prop:=(∃ ev:Value,w.cell? ⟨3,0,none⟩=some ev∧(ev=.nilIface∨∃ te pe,ev=.iface te pe))∧(∃ ev:Value,w.cell? ⟨4,0,none⟩=some ev∧(ev=.nilIface∨∃ te pe,ev=.iface te pe))
theorem Errs.to {w w':World} (h:Errs w) (hb:Below w.heap.size w w'):Errs w':=by
 obtain ⟨⟨a,ha,ha2⟩,⟨b,hb1,hb2⟩⟩:=h;exact ⟨⟨a,(hb.cell (p:=⟨3,0,none⟩) (World.block_lt_of_cell? w _ ha)).trans ha,ha2⟩,⟨b,(hb.cell (p:=⟨4,0,none⟩) (World.block_lt_of_cell? w _ hb1)).trans hb1,hb2⟩⟩
theorem C7 (w:World) (h:Errs w) (s:ByteArray) (hs:s.size≤1048576) :
 Calls Tryz.prog 137 #[.string s,.int .i64 10,.int .i64 64] w fun e w' =>
  (∃ v,Lib.parseIntB 64 s.data.toList=.ok v∧e=.returned (.tuple #[.int .i64 v,.nilIface])∧Below w.heap.size w w') ∨
  ((∀ v,Lib.parseIntB 64 s.data.toList≠.ok v)∧∃ n t p,e=.returned (.tuple #[.int .i64 n,.iface t p])∧Below w.heap.size w w'):=by
 obtain ⟨⟨a,ha,ha2⟩,⟨b,hb1,hb2⟩⟩:=h
 cases hp:Lib.parseIntB 64 s.data.toList with
 | ok v =>
   refine (Any.strconv_ParseInt_10_at64_ok Tryz.laysC174 s (by omega) v hp w).mono ?_
   rintro e w' ⟨rfl,rfl | ⟨t,rfl⟩⟩
   · exact .inl ⟨v,rfl,rfl,Below.refl _ _⟩
   · exact .inl ⟨v,rfl,rfl,Lib.bytesWorld_below _ _ _⟩
 | range =>
   refine (Any.strconv_ParseInt_10_at64_range Tryz.laysC174 s (by omega) hp b w hb1 hb2).mono ?_
   rintro e w' ⟨N,rfl,_,_,hb⟩;exact .inr ⟨(fun v hv=>by cases hv),_,_,_,rfl,hb⟩
 | _ =>
   refine (Any.strconv_ParseInt_10_at64_syntax Tryz.laysC174 s (by omega) hp a w ha ha2).mono ?_
   rintro e w' ⟨N,rfl,_,_,hb⟩;exact .inr ⟨(fun v hv=>by cases hv),_,_,_,rfl,hb⟩
theorem AJ (n:Int) (w:World) :
 Calls Tryz.prog 138 #[.int .i64 n] w fun e w'=>e=.returned (.bool (eG n (-1000000000000000) 1000000000000000))∧w=w':=by
 have L:=Oi (dm n (-1000000000000000) 1000000000000000 w);generalize eG n (-1000000000000000) 1000000000000000=b at *
 go_enter Tryz.func138,Tryz.ntmps138;go_wp2_with fail;refine L.out.mono ?_;rintro e w' ⟨rfl,rfl⟩;go_wp2_with fail;go_ret;exact ⟨rfl,rfl⟩
theorem jO (w:World) (hT:Tab w) (hE:Errs w) (s:ByteArray) (hs:s.size≤1048576) :
 Calls Tryz.prog 100 #[.string s] w fun e w'=>e=.returned (.tuple #[.int .i64 ((eF s.data.toList).getD 0),.bool (eF s.data.toList).isSome])∧Below w.heap.size w w':=by
 have LP:=Oi (C7 w hE s hs);have LD:=Oi (fun v (hv:Tab v) n h0 h1=>iO v hv n h0 h1)
 have LV:=Oi AJ;have HT:=Oi hT;clear hT hE
 go_enter Tryz.func100,Tryz.ntmps100;go_wp2_with fail;refine LP.out.mono ?_;clear LP;rintro e w1 (⟨v,hp,rfl,hb⟩ | ⟨hp,n,t,p,rfl,hb⟩)
 · have HB:=Oi hb
   have hbd:=Lib.parseIntB_bounds hp;have b0:-9223372036854775808≤v:=by have:=hbd.1;simpa using this
   have b1:v≤9223372036854775807:=by have:=hbd.2;simp at this;omega
   cases hin:eG v (-1000000000000000) 1000000000000000 with
   | false =>
     have HV:Hid (eF s.data.toList=none):=xj fun m h0 h1 he=>by
      rw [← he,qO h0 h1] at hp;injection hp with hp
      subst hp;have h9:=(cx (n:=m) (lo:=-1000000000000000) (hi:=1000000000000000)).2 ⟨h0,h1⟩;rw [h9] at hin
      cases hin
     have LV1:=Oi (LV.out v w1);rw [hin] at LV1;clear hp hbd hin hb;go_wp2_with fail;refine LV1.out.mono ?_;rintro e w' ⟨rfl,rfl⟩;go_wp2_with fail
     go_ret2
     rw [HV.out];exact ⟨rfl,HB.out⟩
   | true =>
     obtain ⟨i0,i1⟩:=cx.1 hin;have LV1:=Oi (LV.out v w1);rw [hin] at LV1;have LD1:=Oi (LD.out w1 (HT.out.to hb) v b0 b1)
     by_cases he:Lib.itoa v=s.data.toList
     · have HV:Hid (eF s.data.toList=some v):=Lp he i0 i1
       have hS:bs (Lib.itoa v)=s:=by rw [he,uP]
       rw [hS] at LD1;clear hp hbd hin hb hS he;go_wp2_with fail;refine LV1.out.mono ?_;rintro e w' ⟨rfl,rfl⟩;go_wp2_with fail;refine LD1.out.mono ?_;rintro e w2 ⟨rfl,hb2⟩;go_wp2_with fail
       go_ret2
       rw [HV.out];exact ⟨rfl,aa HB.out hb2⟩
     · have HV:Hid (eF s.data.toList=none):=xj fun m h0 h1 hm=>by
         rw [← hm,qO h0 h1] at hp;injection hp with hp
         subst hp;exact he hm
       have hbl:((bs (Lib.itoa v)).toList == s.toList)=false:=by rw [ab,Lib.toList_data,Bool.eq_false_iff];intro h;exact he (eq_of_beq h)
       generalize bs (Lib.itoa v)=D at *
       clear hp hbd hin hb he;go_wp2_with fail;refine LV1.out.mono ?_;rintro e w' ⟨rfl,rfl⟩;go_wp2_with fail;refine LD1.out.mono ?_;rintro e w2 ⟨rfl,hb2⟩;go_wp2_with fail
       go_ret2
       rw [HV.out];exact ⟨rfl,aa HB.out hb2⟩
 · have HV:Hid (eF s.data.toList=none):=xj fun m h0 h1 he=>hp m (by rw [← he];exact qO h0 h1)
   have HB:=Oi hb;clear hp hb;go_wp2_with fail
   go_ret2
   rw [HV.out];exact ⟨rfl,HB.out⟩
theorem zC {P:Program} (w:World) (base:Nat) (t ty e:TypeId) (i:TypeInfo) (z:Value) (ht:P.underlying t=some (.slice e)) (hi:P.info? e=some i) (hz:i.zero=some z) (hsize:i.size=1)
 (v:Value) (n:Nat) (xs:List Value) (hown:w.ownsRow base e 1 v n xs) (a:Addr) (m c:Nat) (news:List Value) (hl:news.length=m * 1) (hnews:∀ j u,news[j]? = some u→w.cell? (a.add j)=some u) (h1:∀ u∈news,u.oneCell'=true)
 (hm:0<m) (h63:n+m≤maxLen) (hbytes:(n+m) * i.bytes≤140737488355328) {v':Value} {w':World} (hr:(Builtin.append_ #[t,t] ty #[v,.slice (some a) m c]).run P w=.ok v' w') :
 v'.ownBlock=v.ownBlock∨v'.ownBlock=some w.heap.size:=by
 have hsmall:n+m≤9223372036854775807:=by simp only [maxLen] at h63;omega
 rw [← hsize] at hl
 rcases hown.2 with ⟨rfl,rfl⟩ | ⟨g,cap,cur,rfl,hbg,hg,hnc,hcm,hcs,htake⟩
 · have hr2:=run_append_nil (P:=P) w t ty e i z ht hi hz a m c news hl hnews (by omega) (by omega) (by have hb:=hbytes;simp only [Nat.zero_add] at hb;omega)
   rw [hr2] at hr;injection hr with hr _
   subst hr;exact .inr rfl
 · by_cases hroom:n+m≤cap
   · have hfit:n * i.size+news.length≤cur.size:=by rw [hl,hcs,hsize,← Nat.add_mul];exact Nat.mul_le_mul_right _ hroom
     have hr2:=run_append_room (P:=P) w t ty e i ht hi g n cap cur hg a m c news hl hnews h1 hroom hfit;rw [hr2] at hr;injection hr with hr _
     subst hr;exact .inl rfl
   · have holds:∀ j u,xs[j]? = some u→w.cell? ((⟨g,0,none⟩:Addr).add j)=some u:=hown.cells (g:=g) rfl
     have hr2:=run_append_grow (P:=P) w t ty e i z ht hi hz ⟨g,0,none⟩ n cap xs (by rw [hsize];exact hown.1) holds a m c news hl hnews (by omega) (by omega) (growslice_fits (by omega) hbytes)
     rw [hr2] at hr;injection hr with hr _
     subst hr;exact .inr rfl
theorem aQ {P:Program} (wr:World) {ops:Array Oper} {rest:List Oper} {o:Oper} {a:Act} {Q:Exit→Act→World→Prop}
 (hg:o.guard=none) (s x:Operand) (t:TypeId) (hop:o.op=Op.call { callee:=Callee.builtin Builtin.append,args:=#[s,x],argTypes:=#[t,t] })
 (base:Nat) (e:TypeId) (z:Value) (bytes:Nat) (h1:P.underlying t=some (.slice e)) (hinfo:(P.info? e).map (fun i=>(i.zero,i.size,i.bytes))=some (some z,1,bytes)) (hz:z.cells.size=1)
 (v:Value) (n:Nat) (xs:List Value) (hs:a.eval s=v) (hown:wr.ownsRow base e 1 v n xs) (y:Value) (hy:y.oneCell'=true)
 (hx:a.eval x=.slice (some ⟨wr.heap.size,0,none⟩) 1 1) (hb:bytes≤64) (hn:n≤1099511627776) (hbase:base≤wr.heap.size)
 (hK:∀ v' w',w'.ownsRow base e 1 v' (n+1) (xs ++ [y])→wr.grownBy w' v.ownBlock→(∀ g,g<wr.heap.size→some g≠v.ownBlock→some g≠v'.ownBlock)→wpList P ops Q rest (a.put o.dst v') w') :
 wpList P ops Q (o :: rest) a (wr.alloc (.cells #[y] e)):=by
 obtain ⟨i,h2,h3,h4,h5⟩:=info_parts hinfo;have hbb:(n+1) * bytes≤140737488355328:=Nat.le_trans (Nat.mul_le_mul_left (n+1) hb) (by omega)
 have hnews:∀ j u,[y][j]? = some u→(wr.alloc (.cells #[y] e)).cell? ((⟨wr.heap.size,0,none⟩:Addr).add j)=some u:=by
  intro j u hj
  match j,hj with
  | 0,hj =>
    simp at hj
    subst hj;simp [Addr.add]
  | j+1,hj=>simp at hj
 have hone:∀ u∈[y],u.oneCell'=true:=by
  intro u hu;simp at hu
  subst hu;exact hy
 refine wpList_plain hg fun _ hK'=>?_
 obtain ⟨v',w',hr,ho,hgr,_⟩:=run_append_own (P:=P) (wr.alloc (.cells #[y] e)) base t o.type e i z 1 bytes h1 h2 h3 h4 h5 hz (by omega) v n xs (hown.alloc _) ⟨wr.heap.size,0,none⟩ 1 1 [y] rfl hnews hone (by unfold maxLen;omega) hbb (by simp;omega)
 have hblk:=zC (wr.alloc (.cells #[y] e)) base t o.type e i z h1 h2 h3 h4 v n xs (hown.alloc _) ⟨wr.heap.size,0,none⟩ 1 1 [y] rfl hnews hone (by omega) (by unfold maxLen;omega) (by rw [h5];exact hbb) hr
 unfold Oper.wp execOp;simp only [hop,resolve,invoke,builtin,Sem.run_bind,Sem.run_pure,Result.andThen_ok,List.map_toArray,List.map_cons,List.map_nil,hs,hx,hr];refine hK' _ _ (hK v' w' ho ⟨hgr.os,hgr.tape,hgr.output,?_,fun k hk hne=>?_⟩ fun g hgl hgv hgv'=>?_)
 · have:=hgr.size;simp at this;omega
 · rw [hgr.block k (by simp;omega) hne]
   exact Below.heap_alloc _ _ _ hk
 · rcases hblk with h | h
   · exact hgv (hgv'.trans h)
   · rw [h] at hgv'
     injection hgv' with hgv'
     simp at hgv'
     omega
def Apart (u v:Value):Prop:=∀ g,u.ownBlock=some g→v.ownBlock≠some g
theorem Apart.symm {u v:Value} (h:Apart u v):Apart v u:=fun g h1 h2=>h g h2 h1
theorem rV {w w':World} {base e n:Nat} {u v:Value} {xs:List Value} (h:w.ownsRow base e 1 v n xs) (hg:w.grownBy w' u.ownBlock) (ha:Apart u v):w'.ownsRow base e 1 v n xs:=by
 refine h.kept hg ?_
 cases hv:v.ownBlock with
 | none=>exact .inl rfl
 | some g=>exact .inr (fun e=>ha g e.symm hv)
theorem uL {w:World} {base e n:Nat} {u u' v:Value} {xs:List Value} (h:w.ownsRow base e 1 v n xs) (ha:Apart u v) (hn:∀ g,g<w.heap.size→some g≠u.ownBlock→some g≠u'.ownBlock):Apart u' v :=
 fun g hu hv=>hn g (h.lt g hv).2 (fun e=>ha g e.symm hv) hu.symm
theorem lM {w:World} {base e n c:Nat} {a:Option Addr} {xs:List Value} (h:w.ownsRow base e 1 (.slice a n c) n xs) (hn:0<n) :
 ∃ g tl,a=some ⟨g,0,none⟩∧base≤g∧Blk w g (xs ++ tl) e∧n≤c∧c≤maxLen∧(xs ++ tl).length=c:=by
 rcases h.2 with ⟨h2,h3⟩ | ⟨g,cap,cur,hv,hg,hh,hn2,hm,hs,ht⟩
 · omega
 · injection hv with ha _ hc
   subst ha hc;rw [Nat.mul_one] at hs ht;refine ⟨g,cur.toList.drop n,rfl,hg,?_,hn2,hm,?_⟩
   · rw [← ht,List.take_append_drop];exact hh
   · rw [← ht,List.take_append_drop];simpa using hs
theorem yb {w:World} {base e n c g:Nat} {xs tl:List Value} (h:Blk w g (xs ++ tl) e) (hg:base≤g) (hn:xs.length=n) (hnc:n≤c) (hm:c≤maxLen) (hl:(xs ++ tl).length=c):w.ownsRow base e 1 (.slice (some ⟨g,0,none⟩) n c) n xs :=
 ⟨by omega,.inr ⟨g,c,_,rfl,hg,h,hnc,hm,by simpa using hl,by rw [Nat.mul_one,← hn];exact List.take_left⟩⟩
theorem ki {w:World} {g T:Nat} {xs:List Int} {tl:List Value} (h:Blk w g (ae xs ++ tl) T) {j:Nat} (hj:j<xs.length):w.cell? ⟨g,j,none⟩=some (.int .i64 (xs.getD j 0)):=by
 rw [h.cell,List.getElem?_append_left (by simpa using hj)]
 exact eJ xs j hj
theorem sY {w:World} {g T:Nat} {xs:List Int} {tl:List Value} (h:Blk w g (ae xs ++ tl) T) {j:Nat} (hj:j<xs.length) (y:Int):Blk (w.setCell ⟨g,j,none⟩ (.int .i64 y)) g (ae (xs.set j y) ++ tl) T:=by
 have:=h.set j (.int .i64 y);rwa [List.set_append_left _ _ (by simpa using hj),← oE] at this
theorem BJ {w:World} {g T B:Nat} {xs tl:List Value} (h:Blk w g (xs ++ tl) T) (hB:g<B):Rd w B (some ⟨g,0,none⟩) xs :=
 .inr ⟨g,0,rfl,hB,fun j hj=>by rw [Nat.zero_add,h.cell,List.getElem?_append_left hj]⟩
theorem Lw (a b:List UInt8):bs a ++ bs b=bs (a ++ b):=by
 apply Ao;rw [ByteArray.data_append,Array.toList_append];rfl
theorem jn {w:World} {B:Nat} {a:Option Addr} {xs:List (List UInt8)} (h:Rd w B a (bF xs)) {k:Nat} (hk:k<xs.length) :
 ∃ b o l,a=some ⟨b,o,none⟩∧b<B∧w.cell? ⟨b,o+k,none⟩=some (.string (bs l))∧Hid (xs[k]? = some l):=by
 obtain ⟨b,o,v,ha,hb,hc,hv⟩:=h.getV (k:=k) (by simpa using hk)
 have e:=BY (List.getElem?_eq_getElem hk);have e2:v=.string (bs xs[k]):=by
  have:=hv.out;rw [e] at this;injection this with this
  exact this.symm
 subst e2;exact ⟨b,o,xs[k],ha,hb,hc,List.getElem?_eq_getElem hk⟩
theorem AM (xs:List (List UInt8)):3 * xs.length≤fO xs:=by
 induction xs with
 | nil=>simp [fO]
 | cons l ls ih =>
   have ej:fO (l :: ls)=l.length+3+fO ls:=by simp [fO]
   simp only [List.length_cons];omega
theorem J4 {xs:List (List UInt8)} {k:Nat} {l:List UInt8} (h:xs[k]? = some l):l.length+3≤fO xs:=by
 have h1:=Hk h;have h2:=Hi xs (k+1);omega
def Apt (a:Option Addr) (v:Value):Prop:=∀ b,a=some b→some b.block≠v.ownBlock
theorem Rd.apt {wr w':World} {B:Nat} {a:Option Addr} {vs:List Value} {v:Value} (h:Rd wr B a vs) (hB:B≤wr.heap.size) (hg:wr.grownBy w' v.ownBlock) (ha:Apt a v):Rd w' B a vs:=by
 rcases h with h | ⟨b,o,e,hb,hc⟩
 · exact .inl h
 · exact .inr ⟨b,o,e,hb,fun j hj=>by rw [World.cell?_of_block (w:=wr) (hg.block b (by omega) (ha _ e))];exact hc j hj⟩
theorem Apt.grow {wr:World} {a:Option Addr} {v v':Value} (ha:Apt a v) (hlt:∀ b,a=some b→b.block<wr.heap.size) (hn:∀ g,g<wr.heap.size→some g≠v.ownBlock→some g≠v'.ownBlock):Apt a v' :=
 fun b e=>hn _ (hlt b e) (ha b e)
def NR (w:World) (ps:List (List UInt8)) (e:Ending) (w':World):Prop:=∃ a c,e=.returned (.slice a ps.length c)∧Rd w' w'.heap.size a (bF ps)∧(∀ b,a=some b→w.heap.size≤b.block∧b.block<w'.heap.size)∧Below w.heap.size w w'
theorem vE (w:World) (h:Shp w) (s:ByteArray) (hs:s.size≤1048576) :
 Calls Tryz.prog 48 #[.string s] w (NR w (ex s.data.toList)):=by
 have LS:=Oi (pr w h s hs 44 ⟨#[44]⟩ rfl)
 by_cases hn:s.data.toList=sM
 · have HP:Hid (ex s.data.toList=[]):=by unfold ex;rw [Hid,if_pos hn]
   have hS:s=⟨#[110,111,110,101]⟩:=by rw [← uP s,hn];rfl
   have hbl:(s.toList == [110,111,110,101])=true:=by rw [Lib.toList_data,hn];rfl
   rw [HP.out];clear hn LS hS
   go_enter Tryz.func48,Tryz.ntmps48;go_wp2_with fail;go_ret;exact ⟨none,0,rfl,.inl rfl,(fun b e=>by cases e),Below.refl _ _⟩
 · have HP:Hid (ex s.data.toList=cH 44 s.data.toList):=by unfold ex;rw [Hid,if_neg hn]
   have hbl:(s.toList == [110,111,110,101])=false:=by rw [Lib.toList_data,Bool.eq_false_iff];intro e;exact hn (eq_of_beq e)
   rw [HP.out];generalize cH 44 s.data.toList=ps at *
   clear hn
   go_enter Tryz.func48,Tryz.ntmps48;go_wp2_with fail;refine LS.out.mono ?_;rintro e w' ⟨rfl,hb,hw⟩;go_wp2_with fail;go_ret;exact ⟨_,_,rfl,hb.rd hb.lt,(fun b e=>by injection e with e;subst e;exact ⟨Nat.le_refl _,hb.lt⟩),hw⟩
theorem BL (w:World) (hT:Tab w) (hS:Shp w) (hE:Errs w) (s:ByteArray) (hs:s.size≤1048576) :
 Calls Tryz.prog 111 #[.string s] w (ww 2 w (dE eF (ex s.data.toList))):=by
 have hln:(ex s.data.toList).length≤1048577:=by have:=Bo s.data.toList;have:=Lib.size_eq s;omega
 have HM:Hid (∀ x∈ex s.data.toList,x.length≤1048576):=fun x hx=>by have:=Bp hx;have:=Lib.size_eq s;omega
 have LP:=Oi (fun v (hv:Below w.heap.size w v)=>vE v (hS.to hv) s hs)
 have HT:=Oi hT;have HE:=Oi hE;have LD:=Oi jO;have HTl:=Oi (Till.start eF (ex s.data.toList));generalize ex s.data.toList=ps at *
 clear hT hS hE hs;have hO0:=Oi (bz w 2)
 go_enter Tryz.func111,Tryz.ntmps111;go_wp2_with fail;refine (LP.out _ (ai _ _)).mono ?_;rintro e w1 ⟨a,c,rfl,hrd,hbl,hb1⟩;have HX:=Oi hrd;have HB1:=Oi (aa (ai _ _) hb1);have HO1:=Oi (aD hO0.out hb1);have HL:=Oi (fun b (e:a=some b)=>(hbl b e).2)
 have HA0:Hid (Apt a (.slice (some ⟨w.heap.size,0,none⟩) 0 0)):=fun b e h=>by
  have h1:=(hbl b e).1;have h2:some b.block=some w.heap.size:=h;injection h2 with h2
  simp at h1
  omega
 clear hrd hb1 hO0 LP hbl;go_wp2_with fail
 go_loopw [4,13] (fun v iv wr=>∃ (k:Nat) (d:List Int),k≤ps.length∧d.length=k∧iv=.int .i64 k∧(∃ g c,v=.slice (some ⟨g,0,none⟩) d.length c)∧Hid (Till eF ps k d)∧Hid (wr.ownsRow w.heap.size 2 1 v d.length (ae d))∧Hid (Below w.heap.size w wr)∧Hid (Rd wr w1.heap.size a (bF ps))∧Hid (w1.heap.size≤wr.heap.size)∧Hid (Apt a v)) (fun _ iv _=>ps.length - (intOf iv).toNat)
 case atStart=>exact ⟨0,[],Nat.zero_le _,rfl,rfl,⟨_,_,rfl⟩,HTl.out,HO1.out,HB1.out,HX.out,Nat.le_refl _,HA0.out⟩
 case round =>
  obtain ⟨k,d,hk,hdk,rfl,⟨g,cp,rfl⟩,hTl,hO,hw,hR,hS1,hA⟩:=hrel;have HDK:=Oi hdk;clear hdk;have k0:(0:Int)≤(k:Int):=Int.natCast_nonneg _
  by_cases hlt:k<ps.length
  · have k1:(k:Int)<(ps.length:Int):=by omega
    obtain ⟨b,o,l,ha,hb,hc,hl⟩:=jn hR.out hlt;have HAe:=Oi ha;subst ha;have hlm:=HM.out l (List.mem_of_getElem? hl.out);have LD1:=Oi (LD.out wr (HT.out.to hw.out) (HE.out.to hw.out) (bs l) (by rw [aE];exact hlm))
    rw [show (bs l).data.toList=l from rfl] at LD1
    cases hv:eF l with
    | none =>
      have HF:=Oi (hTl.out.stop hl.out hv);rw [hv] at LD1;clear hTl hl hv;go_wp2_with fail;refine LD1.out.mono ?_;rintro e w2 ⟨rfl,hb2⟩;go_wp2_with fail
      go_ret2
      rw [HF.out];exact ⟨aa hw.out hb2,rfl⟩
    | some n =>
      have HT2:=Oi (hTl.out.step hl.out hv);rw [hv] at LD1;clear hTl hl hv;go_wp2_with fail;refine LD1.out.mono ?_;rintro e w2 ⟨rfl,hb2⟩;have hO':=aD hO.out hb2;have hw2:=aa hw.out hb2;have hws2:=hw2.size;have hdl:d.length≤1099511627776:=by have:=HDK.out;omega
      have HR2:=Oi (hR.out.below (hb2.mono hS1.out) (Nat.le_refl _));have HS2:=Oi (Nat.le_trans hS1.out hb2.size);clear hb2 hO hw hR LD1
      go_wp2_with (at_builtin;go_loud (refine aQ _ rfl _ _ 24 rfl w.heap.size 2 (.int .i64 0) 8 Tryz.underlying24 aZ rfl _ d.length _ rfl hO' (.int .i64 n) rfl rfl (by omega) hdl hws2 ?_))
      intro v' w' ho hgr hng;obtain ⟨g2,c2,rfl⟩:=fm ho (by omega)
      have HO2:Hid (w'.ownsRow w.heap.size 2 1 (.slice (some ⟨g2,0,none⟩) (d.length+1) c2) (d ++ [n]).length (ae (d ++ [n]))):=by
       rw [Hid,List.length_append,List.length_singleton,bk];exact ho
      have HW3:=Oi (ah hw2 hO' hgr (Nat.le_refl _) hws2);have HR3:=Oi (HR2.out.apt HS2.out hgr hA.out);have HS3:=Oi (Nat.le_trans HS2.out hgr.size);have HA3:=Oi (hA.out.grow (fun b e=>Nat.lt_of_lt_of_le (HL.out b e) HS2.out) hng)
      clear ho hgr hng hO' hw2 HR2 hA;go_wp2_with fail;go_roundw
      case rel=>exact ⟨k+1,d ++ [n],by omega,by simp [HDK.out],by go_num,⟨g2,c2,by simp⟩,HT2.out,HO2.out,HW3.out,HR3.out,HS3.out,HA3.out⟩
      case measure=>simp [intOf];omega
  · obtain rfl:k=ps.length:=by omega
    have HF:=Oi hTl.out.done;clear hTl;go_wp2_with fail
    go_ret2
    rw [HF.out];exact ⟨hw.out,_,_,rfl,hO.out⟩
theorem gW (w:World) (hT:Tab w) (hS:Shp w) (hE:Errs w) (s:ByteArray) (hs:s.size≤1048576) :
 Calls Tryz.prog 84 #[.string s] w (ww 2 w (dD s.data.toList)):=by
 have LR:=Oi (BL w hT hS hE s hs);clear hT hS hE
 cases ha:dE eF (ex s.data.toList) with
 | none =>
   have HF:=Oi (Ir ha);rw [ha] at LR;rw [HF.out];clear ha
   go_enter Tryz.func84,Tryz.ntmps84;go_wp2_with fail;refine LR.out.mono ?_;rintro e w' ⟨hb,rfl⟩;go_wp2_with fail
   go_ret2
   exact ⟨hb,rfl⟩
 | some ns =>
   rw [ha] at LR
   by_cases hl:ns.length≤64
   · have HF:=Oi (Fv ha hl)
     rw [HF.out];have hl2:¬ (64:Int)<(ns.length:Int):=by omega
     clear ha
     go_enter Tryz.func84,Tryz.ntmps84;go_wp2_with fail;refine LR.out.mono ?_;rintro e w' ⟨hb,g,c,rfl,ho⟩;go_wp2_with fail
     go_ret2
     exact ⟨hb,g,c,rfl,ho⟩
   · have HF:Hid (dD s.data.toList=none):=Fu (by rw [← qk ha];omega)
     rw [HF.out];have hl2:(64:Int)<(ns.length:Int):=by omega
     clear ha
     go_enter Tryz.func84,Tryz.ntmps84;go_wp2_with fail;refine LR.out.mono ?_;rintro e w' ⟨hb,g,c,rfl,ho⟩;go_wp2_with fail
     go_ret2
     exact ⟨hb,rfl⟩
def LZ (xs:List Int) (n:Nat):Bool:=gv xs 0 (n - 1) && decide xs.Nodup
def mF (xs:List Int) (n:Nat):Bool:=LZ xs n && decide (xs.length=n)
theorem nr {xs:List Int} {n:Nat}:mF xs n=true ↔ (∀ x∈xs,0≤x∧x<n)∧xs.Nodup∧xs.length=n:=by
 simp only [mF,LZ,Bool.and_eq_true,fi,decide_eq_true_iff,and_assoc]
 constructor
 · rintro ⟨h1,h2,h3⟩;exact ⟨fun x hx=>by have:=h1 x hx;omega,h2,h3⟩
 · rintro ⟨h1,h2,h3⟩;exact ⟨fun x hx=>by have:=h1 x hx;omega,h2,h3⟩
end Go.Proofs.YtbknhgapjjaelaaGreatDoor
