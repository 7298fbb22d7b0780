/-
  Part 2 of what the proof stands on: lemmas and contracts, each with its conditions ahead of the colon.
-/
import Derived.Deep.Fields
import Derived.Deep.Matrix
import Derived.BigQuiet
import Derived.Test.YtbknhgapjjaelaaGreatDoorPk01
set_option maxRecDepth 10000
set_option maxHeartbeats 4000000
namespace Go.Proofs.YtbknhgapjjaelaaGreatDoor
set_option linter.unusedVariables false
set_option linter.unusedSimpArgs false
open Go.RowKit
def fm (p:Nat→Bool) (n:Nat):Int:=match (List.range n).find? p with
 | some j=>j
 | none=>-1
theorem jm {p:Nat→Bool} {n k:Nat} (hk:k<n) (hp:p k=true) (hb:∀ j,j<k→p j=false):fm p n=k:=by
 have:(List.range n).find? p=some k:=by
  rw [List.find?_range_eq_some];exact ⟨hp,by simpa using hk,fun j hj=>by simp [hb j hj]⟩
 simp [fm,this]
theorem jn {p:Nat→Bool} {n:Nat} (hb:∀ j,j<n→p j=false):fm p n = -1:=by
 have:(List.range n).find? p=none:=by
  rw [List.find?_eq_none];intro j hj;simp [hb j (by simpa using hj)]
 simp [fm,this]
theorem mO (p:Nat→Bool) (n:Nat):(∃ k,k<n∧p k=true∧(∀ j,j<k→p j=false)∧fm p n=k)∨((∀ j,j<n→p j=false)∧fm p n = -1):=by
 by_cases h:∃ k,k<n∧p k=true
 · obtain ⟨k,hk,hm⟩:∃ k,(k<n∧p k=true)∧∀ j,j<k→¬ (j<n∧p j=true):=by
     obtain ⟨k,hk⟩:=h
     induction k using Nat.strongRecOn with
     | _ k ih =>
       by_cases hh:∃ j,j<k∧j<n∧p j=true
       · obtain ⟨j,h1,h2⟩:=hh;exact ih j h1 h2
       · exact ⟨k,hk,fun j hj hh2=>hh ⟨j,hj,hh2⟩⟩
   have hb:∀ j,j<k→p j=false:=fun j hj=>by
    have:=hm j hj
    cases hp:p j with
    | false=>rfl
    | true=>exact absurd ⟨by omega,hp⟩ this
   exact .inl ⟨k,hk.1,hk.2,hb,jm hk.1 hk.2 hb⟩
 · have hb:∀ j,j<n→p j=false:=fun j hj=>by
     cases hp:p j with
     | false=>rfl
     | true=>exact absurd ⟨j,hj,hp⟩ h
   exact .inr ⟨hb,jn hb⟩
def iz (p:Nat→Bool) (n:Nat):Bool:=decide (0≤fm p n)
theorem Az {p:Nat→Bool} {n:Nat}:iz p n=true ↔ ∃ k,k<n∧p k=true:=by
 unfold iz;rw [decide_eq_true_iff]
 rcases mO p n with ⟨k,hk,hp,_,e⟩ | ⟨hb,e⟩
 · rw [e];exact ⟨fun _=>⟨k,hk,hp⟩,fun _=>by omega⟩
 · rw [e]
   constructor
   · intro h;omega
   · rintro ⟨k,hk,hp⟩;rw [hb k hk] at hp;cases hp
theorem CM {p:Nat→Bool} {n:Nat}:iz p n=false ↔ ∀ k,k<n→p k=false:=by
 rw [← Bool.not_eq_true,Az]
 constructor
 · intro h k hk
   cases hp:p k with
   | false=>rfl
   | true=>exact absurd ⟨k,hk,hp⟩ h
 · rintro h ⟨k,hk,hp⟩;rw [h k hk] at hp;cases hp
theorem Rd.getV {w:World} {B:Nat} {a:Option Addr} {vs:List Value} (h:Rd w B a vs) {k:Nat} (hk:k<vs.length) :
 ∃ b o v,a=some ⟨b,o,none⟩∧b<B∧w.cell? ⟨b,o+k,none⟩=some v∧Hid (vs[k]? = some v):=by
 rcases h with h | ⟨b,o,ha,hb,hc⟩
 · subst h;simp at hk
 · exact ⟨b,o,vs[k],ha,hb,by rw [hc k hk,List.getElem?_eq_getElem hk],by simp [Hid,List.getElem?_eq_getElem hk]⟩
def pM (xs:List Int) (v:Int):Int:=fm (fun j=>v == xs.getD j 0) xs.length
def bF (xs:List Int) (v:Int):Bool:=decide (0≤pM xs v)
theorem jJ {xs:List Int} {v:Int}:bF xs v=true ↔ v∈xs:=by
 show iz _ _=true ↔ _
 rw [Az]
 constructor
 · rintro ⟨k,hk,h⟩
   rw [beq_iff_eq] at h;rw [h];exact List.mem_of_getElem? (rh hk)
 · intro h
   obtain ⟨k,hk,e⟩:=List.getElem_of_mem h;exact ⟨k,hk,by rw [beq_iff_eq,← e];simp [List.getD,hk]⟩
theorem wV (w:World) (a:Option Addr) (c:Nat) (xs:List Int) (v:Int) (h:Rd w w.heap.size a (ae xs)) (hl:xs.length≤1152921504606846976) :
 Calls Tryz.prog 203 #[.slice a xs.length c,.int .i64 v] w fun e w'=>e=.returned (.int .i64 (pM xs v))∧w=w':=by
 go_enter Tryz.func203,Tryz.ntmps203
 go_wp2
 go_loop [8] (fun i=>∃ k:Nat,k≤xs.length∧i=.int .i64 k∧Hid (∀ j,j<k→(v == xs.getD j 0)=false)) (fun i=>xs.length - (intOf i).toNat)
 case atStart=>exact ⟨0,Nat.zero_le _,rfl,fun j hj=>by omega⟩
 case round =>
  obtain ⟨k,hk,rfl,ha⟩:=hrel
  by_cases hlt:k<xs.length
  · obtain ⟨b,o,x,rfl,hbb,hck,hx⟩:=h.get hlt
    clear h
    cases hin:(v == x) with
    | false =>
      have hF:Hid (∀ j,j<k+1→(v == xs.getD j 0)=false):=fun j hj=>by
       by_cases e:j=k
       · rw [e,bZ hx.out,hin]
       · exact ha.out j (by omega)
      go_wp2
      go_round
      case rel=>exact ⟨k+1,by omega,by go_num,hF⟩
      case measure=>simp [intOf];omega
    | true =>
      have hF:Hid (pM xs v=k):=jm hlt (by rw [bZ hx.out,hin]) ha.out
      go_wp2
      go_ret;exact ⟨ce hF.out.symm,rfl⟩
  · have:k=xs.length:=by omega
    subst this;have hF:Hid (pM xs v = -1):=jn ha.out
    go_wp2
    go_ret;exact ⟨ce hF.out.symm,rfl⟩
theorem ga (w:World) (a:Option Addr) (c:Nat) (xs:List Int) (v:Int) (h:Rd w w.heap.size a (ae xs)) (hl:xs.length≤1152921504606846976) :
 Calls Tryz.prog 145 #[.slice a xs.length c,.int .i64 v] w fun e w'=>e=.returned (.bool (bF xs v))∧w=w':=by
 go_enter Tryz.func145,Tryz.ntmps145
 go_wp2_with (go_at_call 203;refine (wV _ _ _ xs v h hl).mono ?_;rintro e w' ⟨rfl,rfl⟩)
 go_ret;exact ⟨rfl,rfl⟩
theorem th (K:Nat) (caps:Array Value) (hK:∀ (args:Array Value) (w:World),(callFunc K args).run Tryz.prog w=.ok (.enter K args) w)
 (w:World) (a:Option Addr) (c:Nat) (vs:List Value) (p:Nat→Bool) (h:Rd w w.heap.size a vs) (hl:vs.length≤1152921504606846976)
 (hcall:∀ w' j v,Below w.heap.size w w'→vs[j]? = some v→Calls Tryz.prog K (#[v] ++ caps) w' fun e w''=>e=.returned (.bool (p j))∧Below w'.heap.size w' w'') :
 Calls Tryz.prog 175 #[.slice a vs.length c,.func (.func K) #[] caps] w fun e w'=>e=.returned (.int .i64 (fm p vs.length))∧Below w.heap.size w w':=by
 have Hc:=Na hcall;clear hcall
 go_enter Tryz.func175,Tryz.ntmps175
 go_wp2
 go_loopw [8] (fun i wr=>∃ k:Nat,k≤vs.length∧i=.int .i64 k∧Hid (∀ j,j<k→p j=false)∧Below w.heap.size w wr) (fun i _=>vs.length - (intOf i).toNat)
 case atStart=>exact ⟨0,Nat.zero_le _,rfl,fun j hj=>by omega,Below.refl _ _⟩
 case round =>
  obtain ⟨k,hk,rfl,ha,hw⟩:=hrel
  by_cases hlt:k<vs.length
  · obtain ⟨b,o,v,rfl,hbb,hck,hx⟩:=(h.below hw (Nat.le_refl _)).getV hlt
    clear h;have HC:=Na (Hc.out wr k v hw hx.out)
    cases hin:p k with
    | false =>
      have hF:Hid (∀ j,j<k+1→p j=false):=fun j hj=>by
       by_cases e:j=k
       · rw [e,hin]
       · exact ha.out j (by omega)
      rw [hin] at HC;go_wp2_with fail;refine HC.out.mono ?_;rintro e w2 ⟨rfl,hb2⟩;have hw2:=aa hw hb2;go_wp2_with fail;go_roundw
      case rel=>exact ⟨k+1,by omega,by go_num,hF,hw2⟩
      case measure=>simp [intOf];omega
    | true =>
      have hF:Hid (fm p vs.length=k):=jm hlt hin ha.out;rw [hin] at HC;go_wp2_with fail;refine HC.out.mono ?_;rintro e w2 ⟨rfl,hb2⟩;have hw2:=aa hw hb2;go_wp2_with fail;go_ret;exact ⟨ce hF.out.symm,hw2⟩
  · have:k=vs.length:=by omega
    subst this;have hF:Hid (fm p vs.length = -1):=jn ha.out
    go_wp2
    go_ret;exact ⟨ce hF.out.symm,hw⟩
theorem lj (K:Nat) (caps:Array Value) (hK:∀ (args:Array Value) (w:World),(callFunc K args).run Tryz.prog w=.ok (.enter K args) w)
 (w:World) (a:Option Addr) (c:Nat) (vs:List Value) (p:Nat→Bool) (h:Rd w w.heap.size a vs) (hl:vs.length≤1152921504606846976)
 (hcall:∀ w' j v,Below w.heap.size w w'→vs[j]? = some v→Calls Tryz.prog K (#[v] ++ caps) w' fun e w''=>e=.returned (.bool (p j))∧Below w'.heap.size w' w'') :
 Calls Tryz.prog 167 #[.slice a vs.length c,.func (.func K) #[] caps] w fun e w'=>e=.returned (.bool (iz p vs.length))∧Below w.heap.size w w':=by
 have HI:=Na (th K caps hK w a c vs p h hl hcall);clear hcall h hK
 go_enter Tryz.func167,Tryz.ntmps167;go_wp2_with fail;refine HI.out.mono ?_;rintro e w1 ⟨rfl,hb⟩;go_wp2_with fail;go_ret;exact ⟨rfl,hb⟩
def jd (xs:List Nat):Bool:=xs.all iN
theorem Fe (xs:List Nat):jd xs = !(iz (fun j=>!iN (xs.getD j 0)) xs.length):=by
 rw [Bool.eq_iff_iff,Bool.not_eq_true',CM,jd,List.all_eq_true]
 constructor
 · intro h k hk
   have:=h (xs.getD k 0) (by rw [List.getD,List.getElem?_eq_getElem hk];exact List.getElem_mem hk)
   rw [this];rfl
 · intro h x hx
   obtain ⟨k,hk,e⟩:=List.getElem_of_mem hx;have:=h k hk;rw [List.getD,List.getElem?_eq_getElem hk] at this;simp only [Option.getD_some,e] at this;simpa using this
theorem Cu (K:Nat) (caps:Array Value) (hK:∀ (args:Array Value) (w:World),(callFunc K args).run Tryz.prog w=.ok (.enter K args) w)
 (w:World) (a:Option Addr) (c:Nat) (vs:List Value) (p:Nat→Bool) (h:Rd w w.heap.size a vs) (hl:vs.length≤1152921504606846976)
 (hcall:∀ w' j v,Below w.heap.size w w'→vs[j]? = some v→Calls Tryz.prog K (#[v] ++ caps) w' fun e w''=>e=.returned (.bool (p j))∧Below w'.heap.size w' w'') :
 Calls Tryz.prog 105 #[.slice a vs.length c,.func (.func K) #[] caps] w fun e w'=>e=.returned (.int .i64 (fm p vs.length))∧Below w.heap.size w w':=by
 have Hc:=Na hcall;clear hcall
 go_enter Tryz.func105,Tryz.ntmps105
 go_wp2
 go_loopw [8] (fun i wr=>∃ k:Nat,k≤vs.length∧i=.int .i64 k∧Hid (∀ j,j<k→p j=false)∧Below w.heap.size w wr) (fun i _=>vs.length - (intOf i).toNat)
 case atStart=>exact ⟨0,Nat.zero_le _,rfl,fun j hj=>by omega,Below.refl _ _⟩
 case round =>
  obtain ⟨k,hk,rfl,ha,hw⟩:=hrel
  by_cases hlt:k<vs.length
  · obtain ⟨b,o,v,rfl,hbb,hck,hx⟩:=(h.below hw (Nat.le_refl _)).getV hlt
    clear h;have HC:=Na (Hc.out wr k v hw hx.out)
    cases hin:p k with
    | false =>
      have hF:Hid (∀ j,j<k+1→p j=false):=fun j hj=>by
       by_cases e:j=k
       · rw [e,hin]
       · exact ha.out j (by omega)
      rw [hin] at HC;go_wp2_with fail;refine HC.out.mono ?_;rintro e w2 ⟨rfl,hb2⟩;have hw2:=aa hw hb2;go_wp2_with fail;go_roundw
      case rel=>exact ⟨k+1,by omega,by go_num,hF,hw2⟩
      case measure=>simp [intOf];omega
    | true =>
      have hF:Hid (fm p vs.length=k):=jm hlt hin ha.out;rw [hin] at HC;go_wp2_with fail;refine HC.out.mono ?_;rintro e w2 ⟨rfl,hb2⟩;have hw2:=aa hw hb2;go_wp2_with fail;go_ret;exact ⟨ce hF.out.symm,hw2⟩
  · have:k=vs.length:=by omega
    subst this;have hF:Hid (fm p vs.length = -1):=jn ha.out
    go_wp2
    go_ret;exact ⟨ce hF.out.symm,hw⟩
theorem wI (K:Nat) (caps:Array Value) (hK:∀ (args:Array Value) (w:World),(callFunc K args).run Tryz.prog w=.ok (.enter K args) w)
 (w:World) (a:Option Addr) (c:Nat) (vs:List Value) (p:Nat→Bool) (h:Rd w w.heap.size a vs) (hl:vs.length≤1152921504606846976)
 (hcall:∀ w' j v,Below w.heap.size w w'→vs[j]? = some v→Calls Tryz.prog K (#[v] ++ caps) w' fun e w''=>e=.returned (.bool (p j))∧Below w'.heap.size w' w'') :
 Calls Tryz.prog 76 #[.slice a vs.length c,.func (.func K) #[] caps] w fun e w'=>e=.returned (.bool (iz p vs.length))∧Below w.heap.size w w':=by
 have HI:=Na (Cu K caps hK w a c vs p h hl hcall);clear hcall h hK
 go_enter Tryz.func76,Tryz.ntmps76;go_wp2_with fail;refine HI.out.mono ?_;rintro e w1 ⟨rfl,hb⟩;go_wp2_with fail;go_ret;exact ⟨rfl,hb⟩
theorem Gp (args:Array Value) (w:World):(callFunc 77 args).run Tryz.prog w=.ok (.enter 77 args) w:=by kernel_rfl
theorem wG (w:World) (x:Nat) :
 Calls Tryz.prog 77 #[.float .f32 x] w fun e w'=>e=.returned (.bool (!iN x))∧Below w.heap.size w w':=by
 have L:=Na (zb w x)
 go_enter Tryz.func77,Tryz.ntmps77;go_wp2_with fail;refine L.out.mono ?_;rintro e w1 ⟨rfl,n,rfl⟩;go_wp2_with fail;go_ret;exact ⟨rfl,pp w n⟩
theorem mD (w:World) (a:Option Addr) (c:Nat) (xs:List Nat) (h:Rd w w.heap.size a (dt xs)) (hl:xs.length≤1048576) :
 Calls Tryz.prog 35 #[.slice a xs.length c] w fun e w'=>e=.returned (.bool (jd xs))∧Below w.heap.size w w':=by
 have L:=wI 77 #[] Gp w a c (dt xs) (fun j=>!iN (xs.getD j 0)) h (by rw [flts_length];omega) (fun w' j v _ hv=>by
  have hj:j<xs.length:=by have:=(List.getElem?_eq_some_iff.1 hv).1;simpa using this
  rw [uc hj] at hv;injection hv with hv
  subst hv;exact wG w' _)
 rw [flts_length] at L;have L:=Na L;have HF:=Na (Fe xs);clear h
 go_enter Tryz.func35,Tryz.ntmps35;go_wp2_with fail;refine L.out.mono ?_;rintro e w1 ⟨rfl,hb⟩;go_wp2_with fail;go_ret;exact ⟨av HF.out.symm,hb⟩
def iE (xs:List Nat):Bool:=decide (1≤xs.length) && decide (xs.length≤16) && jd xs
open Go.RowKit Go.ChangeShapes Go.WideShapes
section
variable {H:Type} {enc:TypeId × Value→H} {P:Program} {w:World} {base:Nat} {spare:Nat→Bool} {held:Bool}
end
def RdGame (w:World) (B:Nat) (a2:Option Addr) (x2:List Int) (a3:Option Addr) (x3:List Int):Prop:=Rd w B a2 (ae x2)∧Rd w B a3 (ae x3)
def OwnGame (w:World) (lo hi:Nat) (a2:Option Addr) (c2:Nat) (x2:List Int) (a3:Option Addr) (c3:Nat) (x3:List Int):Prop :=
 ∃ m3:Nat,(lo≤m3∧m3≤hi)∧OwnI 2 w lo m3 a2 c2 x2∧OwnI 2 w m3 hi a3 c3 x3
section
variable {w w':World} {B C lo hi:Nat} {a2:Option Addr} {x2:List Int} {a3:Option Addr} {x3:List Int} {c2:Nat} {c3:Nat}
theorem RdGame.below (h:RdGame w B a2 x2 a3 x3) (hb:Below C w w') (hB:B≤C):RdGame w' B a2 x2 a3 x3:=⟨Rd.below (h.1) hb hB,Rd.below (h.2) hb hB⟩
theorem RdGame.mono (h:RdGame w B a2 x2 a3 x3) (hB:B≤C):RdGame w C a2 x2 a3 x3:=⟨Rd.mono (h.1) hB,Rd.mono (h.2) hB⟩
theorem RdGame.to (h:RdGame w w.heap.size a2 x2 a3 x3) (hb:Below w.heap.size w w'):RdGame w' w'.heap.size a2 x2 a3 x3:=(h.below hb (Nat.le_refl _)).mono hb.size
theorem OwnGame.rd (h:OwnGame w lo hi a2 c2 x2 a3 c3 x3):RdGame w hi a2 x2 a3 x3:=by
 obtain ⟨m3,hm,o2,o3⟩:=h;exact ⟨o2.rd.mono (by omega),o3.rd.mono (by omega)⟩
theorem OwnGame.keep (h:OwnGame w lo hi a2 c2 x2 a3 c3 x3) (hb:Below w.heap.size w w'):OwnGame w' lo hi a2 c2 x2 a3 c3 x3:=by
 obtain ⟨m3,hm,o2,o3⟩:=h;exact ⟨m3,hm,o2.keep hb,o3.keep hb⟩
theorem OwnGame.touch {lo' hi':Nat} (h:OwnGame w lo hi a2 c2 x2 a3 c3 x3) (ht:Touch w w' lo' hi') (hd:hi≤lo'∨hi'≤lo):OwnGame w' lo hi a2 c2 x2 a3 c3 x3:=by
 obtain ⟨m3,hm,o2,o3⟩:=h;exact ⟨m3,hm,o2.touch ht (by omega),o3.touch ht (by omega)⟩
end
def RdValues (w:World) (B:Nat) (a2:Option Addr) (x2:List Int):Prop:=Rd w B a2 (ae x2)
def OwnValues (w:World) (lo hi:Nat) (a2:Option Addr) (c2:Nat) (x2:List Int):Prop :=
 lo≤hi∧OwnI 2 w lo hi a2 c2 x2
section
variable {w w':World} {B C lo hi:Nat} {a2:Option Addr} {x2:List Int} {c2:Nat}
theorem RdValues.below (h:RdValues w B a2 x2) (hb:Below C w w') (hB:B≤C):RdValues w' B a2 x2:=Rd.below (h) hb hB
theorem RdValues.mono (h:RdValues w B a2 x2) (hB:B≤C):RdValues w C a2 x2:=Rd.mono (h) hB
theorem RdValues.to (h:RdValues w w.heap.size a2 x2) (hb:Below w.heap.size w w'):RdValues w' w'.heap.size a2 x2:=(h.below hb (Nat.le_refl _)).mono hb.size
theorem OwnValues.rd (h:OwnValues w lo hi a2 c2 x2):RdValues w hi a2 x2:=by
 obtain ⟨hm,o2⟩:=h;exact o2.rd.mono (by omega)
end
structure Later (w:World) where
 w':World
 h:Below w.heap.size w w'
instance (w:World):Nonempty (Later w):=⟨⟨w,Below.refl _ w⟩⟩
section
variable {P:Program} {w:World}
theorem Later.cell (n:Later w) {p:Addr} {v:Value} (hp:p.block<w.heap.size) (hc:w.cell? p=some v):n.w'.cell? p=some v:=(n.h.cell (p:=p) hp).trans hc
theorem dx {f:FuncId} {args:Array Value} {n:Later w} {v:Value} (h:Calls P f args n.w' fun e w'=>e=.returned v∧Below n.w'.heap.size n.w' w') :
 Calls P f args n.w' fun e w''=>e=.returned v∧∃ m:Later w,w''=m.w':=h.mono fun _ w'' ⟨h1,h2⟩=>⟨h1,⟨w'',aa n.h h2⟩,rfl⟩
theorem bf {id:Nat} {Q:Exit→Act→World→Prop} {a:Act} {l:List Oper} (hm:P.follows .mixedOrders=true) (hB:Region.lexB .any l.toArray=true)
 (h:wpQuiet P l.toArray (fun w'=>∃ n:Later w,w'=n.w') (fun a'=>∀ w',(∃ n:Later w,w'=n.w')→Q .normal a' w') l a):(Code.region id l.toArray true).wp P Q a w :=
 wp_region_quiet (C:=fun w'=>∃ n:Later w,w'=n.w') hm hB ⟨⟨w.drew,au (Below.refl _ w)⟩,rfl⟩ (by simpa using h)
end
def bY (R C:Int) (x2 x3:List Int):Bool:=eu R 1 6 && eu C 1 6 && (cH x2 (R * C) (R * C) (-1000) 1000 && cH x3 (R * C) (R * C) (-1000) 1000)
def bu (P T:Int) (x2:List Int):Bool:=eu P 1 6 && eu T 1 8 && cH x2 (P * T) (P * T) 0 1000
theorem sx {a b m n:Int} (a1:1≤a) (am:a≤m) (b1:1≤b) (bn:b≤n):1≤a * b∧a * b≤m * n:=by
 have h1:1 * 1≤a * b:=Int.mul_le_mul a1 b1 (by omega) (by omega)
 have h2:a * b≤m * n:=Int.mul_le_mul am bn (by omega) (by omega)
 omega
theorem sJ {xs:List Int} {n lo hi:Int}:cH xs n n lo hi=(gm xs lo hi && decide ((xs.length:Int)=n)):=by
 unfold cH;rw [Bool.and_comm]
 congr 1
 rw [Bool.eq_iff_iff,bH,decide_eq_true_eq];omega
theorem vr (n:Int) (w:World) :
 Calls Tryz.prog 71 #[.int .i64 n] w fun e w'=>e=.returned (.bool (eu n 1 6))∧w=w':=by
 go_enter Tryz.func71,Tryz.ntmps71
 go_wp2_with (go_at_call 74;refine (du _ _ _ _).mono ?_;rintro e w' ⟨rfl,rfl⟩)
 go_ret;exact ⟨rfl,rfl⟩
theorem tK (w:World) (a:Option Addr) (c:Nat) (xs:List Int) (R C:Int) (p1:1≤R * C) (p2:R * C≤1000) (h:Rd w w.heap.size a (ae xs)) (hl:xs.length≤1048576) :
 Calls Tryz.prog 72 #[.slice a xs.length c,.int .i64 R,.int .i64 C] w fun e w'=>e=.returned (.bool (cH xs (R * C) (R * C) (-1000) 1000))∧w=w':=by
 have e1:IntKind.i64.wrap (R * C)=R * C:=IntWalk.i64_in _ (by omega)
 have L:=Na (hH w a c xs (R * C) (R * C) (-1000) 1000 h (by omega))
 clear h
 go_enter Tryz.func72,Tryz.ntmps72
 go_wp2_with (go_at_call 75;refine (L.out).mono ?_;rintro e w' ⟨rfl,rfl⟩)
 go_ret;exact ⟨rfl,rfl⟩
theorem dX (w:World) (U R:Int) (a2:Option Addr) (c2:Nat) (x2:List Int) (a3:Option Addr) (c3:Nat) (x3:List Int) (h:RdGame w w.heap.size a2 x2 a3 x3) (hl2:x2.length≤1048576) (hl3:x3.length≤1048576) :
 Calls Tryz.prog 32 #[.agg #[.int .i64 U,.int .i64 R,.slice a2 x2.length c2,.slice a3 x3.length c3]] w fun e w'=>e=.returned (.bool (bY U R x2 x3))∧Below w.heap.size w w':=by
 have LU:=Na (fun v=>vr U v)
 have LR:=Na (fun v=>vr R v)
 cases t1:eu U 1 6 with
 | false =>
   have HF:Hid (bY U R x2 x3=false):=by simp [Hid,bY,t1]
   rw [t1] at LU;clear h
   go_enter Tryz.func32,Tryz.ntmps32
   go_wp2_with (go_at_call 71;with_reducible refine (LU.out _).mono ?_;rintro e w' ⟨rfl,rfl⟩)
   go_ret;exact ⟨av HF.out.symm,ah _ _⟩
 | true =>
   rw [t1] at LU
   cases t2:eu R 1 6 with
   | false =>
     have HF:Hid (bY U R x2 x3=false):=by simp [Hid,bY,t1,t2]
     rw [t2] at LR;clear h
     go_enter Tryz.func32,Tryz.ntmps32
     go_wp2_with (first | (go_at_call 71;with_reducible refine (LU.out _).mono ?_;rintro e w' ⟨rfl,rfl⟩) | (go_at_call 71;with_reducible refine (LR.out _).mono ?_;rintro e w' ⟨rfl,rfl⟩))
     go_ret;exact ⟨av HF.out.symm,ah _ _⟩
   | true =>
     rw [t2] at LR;obtain ⟨u1,u8⟩:=bH.1 t1;obtain ⟨r1,r8⟩:=bH.1 t2;obtain ⟨p1,p2⟩:=sx u1 u8 r1 r8;have hB:=ah w (.cells #[.int .i64 U,.int .i64 R,.slice a2 x2.length c2,.slice a3 x3.length c3] 26);have L2:=Na (tK _ a2 c2 x2 U R p1 (by omega) (Rd.to h.1 hB) hl2)
     have L3:=Na (tK _ a3 c3 x3 U R p1 (by omega) (Rd.to h.2 hB) hl3)
     have HF:Hid (bY U R x2 x3=(cH x2 (U * R) (U * R) (-1000) 1000 && cH x3 (U * R) (U * R) (-1000) 1000)):=by
      show _=_
      simp only [bY,t1,t2,Bool.true_and]
     clear h hB
     cases t3:cH x2 (U * R) (U * R) (-1000) 1000 with
     | false =>
       rw [t3] at L2;have HF2:Hid (bY U R x2 x3=false):=by rw [Hid,HF.out,t3];rfl
       clear t3
       go_enter Tryz.func32,Tryz.ntmps32
       go_wp2_with (first | (go_at_call 71;with_reducible refine (LU.out _).mono ?_;rintro e w' ⟨rfl,rfl⟩) | (go_at_call 71;with_reducible refine (LR.out _).mono ?_;rintro e w' ⟨rfl,rfl⟩) | (go_at_call 72;with_reducible refine (L2.out).mono ?_;rintro e w' ⟨rfl,rfl⟩))
       go_ret;exact ⟨av HF2.out.symm,ah _ _⟩
     | true =>
       rw [t3] at L2;have HF2:Hid (bY U R x2 x3=cH x3 (U * R) (U * R) (-1000) 1000):=by rw [Hid,HF.out,t3];rfl
       clear t3
       go_enter Tryz.func32,Tryz.ntmps32
       go_wp2_with (first | (go_at_call 71;with_reducible refine (LU.out _).mono ?_;rintro e w' ⟨rfl,rfl⟩) | (go_at_call 71;with_reducible refine (LR.out _).mono ?_;rintro e w' ⟨rfl,rfl⟩) | (go_at_call 72;with_reducible refine (L2.out).mono ?_;rintro e w' ⟨rfl,rfl⟩) | (go_at_call 72;with_reducible refine (L3.out).mono ?_;rintro e w' ⟨rfl,rfl⟩))
       go_ret;exact ⟨av HF2.out.symm,ah _ _⟩
theorem AC (n:Int) (w:World) :
 Calls Tryz.prog 73 #[.int .i64 n] w fun e w'=>e=.returned (.bool (eu n 1 6))∧w=w':=by
 go_enter Tryz.func73,Tryz.ntmps73
 go_wp2_with (go_at_call 74;refine (du _ _ _ _).mono ?_;rintro e w' ⟨rfl,rfl⟩)
 go_ret;exact ⟨rfl,rfl⟩
theorem eo (w:World) (U R:Int) (a2:Option Addr) (c2:Nat) (x2:List Int) (h:RdValues w w.heap.size a2 x2) (hl2:x2.length≤1048576) :
 Calls Tryz.prog 33 #[.agg #[.int .i64 U,.int .i64 R,.slice a2 x2.length c2]] w fun e w'=>e=.returned (.bool (bu U R x2))∧Below w.heap.size w w':=by
 have LU:=Na (fun v=>AC U v)
 have LR:=Na (fun v=>du R 1 8 v)
 have B0:=ah w (.cells #[.int .i64 U,.int .i64 R,.slice a2 x2.length c2] 28)
 cases t1:eu U 1 6 with
 | false =>
   have HF:Hid (bu U R x2=false):=by simp [Hid,bu,t1]
   rw [t1] at LU;clear h
   go_enter Tryz.func33,Tryz.ntmps33
   go_wp2_with (go_at_call 73;with_reducible refine (LU.out _).mono ?_;rintro e w' ⟨rfl,rfl⟩)
   go_ret;exact ⟨av HF.out.symm,ah _ _⟩
 | true =>
   rw [t1] at LU
   cases t2:eu R 1 8 with
   | false =>
     have HF:Hid (bu U R x2=false):=by simp [Hid,bu,t1,t2]
     rw [t2] at LR;clear h
     go_enter Tryz.func33,Tryz.ntmps33
     go_wp2_with (first | (go_at_call 73;with_reducible refine (LU.out _).mono ?_;rintro e w' ⟨rfl,rfl⟩) | (go_at_call 74;with_reducible refine (LR.out _).mono ?_;rintro e w' ⟨rfl,rfl⟩))
     go_ret;exact ⟨av HF.out.symm,ah _ _⟩
   | true =>
     rw [t2] at LR;obtain ⟨u1,u8⟩:=bH.1 t1;obtain ⟨r1,r8⟩:=bH.1 t2;obtain ⟨p1,p2⟩:=sx u1 u8 r1 r8;have HF:Hid (bu U R x2=cH x2 (U * R) (U * R) 0 1000):=by
      show _=_
      simp only [bu,t1,t2,Bool.true_and]
     have e1:IntKind.i64.wrap (U * R)=U * R:=IntWalk.i64_in _ (by omega)
     have L2:Hid (Calls Tryz.prog 75 #[.slice a2 x2.length c2,.int .i64 (U * R),.int .i64 (U * R),.int .i64 0,.int .i64 1000] (w.alloc (.cells #[.int .i64 U,.int .i64 R,.slice a2 x2.length c2] 28)) _):=hH _ a2 c2 x2 (U * R) (U * R) 0 1000 (Rd.to h B0) (by omega)
     clear h
     go_enter Tryz.func33,Tryz.ntmps33
     go_wp2_with (first | (go_at_call 73;with_reducible refine (LU.out _).mono ?_;rintro e w' ⟨rfl,rfl⟩) | (go_at_call 74;with_reducible refine (LR.out _).mono ?_;rintro e w' ⟨rfl,rfl⟩) | (go_at_call 75;refine (L2.out).mono ?_;rintro e w' ⟨rfl,rfl⟩))
     go_ret;exact ⟨av HF.out.symm,ah _ _⟩
structure Cr where
 U:Int
 R:Int
 ways:List Int
 costs:List Int
def gw (w:Int) (r:Nat):Int:=w / 2 ^ r % 2
theorem nA (w:Int) (r:Nat):gw w r=0∨gw w r=1:=by unfold gw;omega
def gu (f:Nat→Int):Nat→Int
 | 0=>0
 | k+1=>gu f k+f k
theorem vi {f g:Nat→Int}:∀ {n:Nat},(∀ i,i<n→f i=g i)→gu f n=gu g n
 | 0,_=>rfl
 | n+1,h=>by rw [gu,gu,vi (n:=n) (fun i hi=>h i (by omega)),h n (by omega)]
theorem tX (f g:Nat→Int):∀ n,gu (fun i=>f i - g i) n=gu f n - gu g n
 | 0=>rfl
 | n+1=>by simp only [gu];rw [tX f g n];omega
theorem nr {f:Nat→Int} {m:Int}:∀ {n:Nat},(∀ i,i<n→-m≤f i∧f i≤m)→-(m * n)≤gu f n∧gu f n≤m * n
 | 0,_=>by simp [gu]
 | n+1,h=>by
   have i1:=nr (n:=n) (fun i hi=>h i (by omega))
   have h2:=h n (by omega)
   have e:m * ((n+1:Nat):Int)=m * n+m:=by rw [Int.natCast_add,Int.mul_add];simp
   simp only [gu];rw [e];omega
def cU (c:Cr) (ch:List Int) (r:Nat):Int:=(ch.map fun k=>gw (c.ways.getD k.toNat 0) r).sum
theorem nF (c:Cr) (r:Nat):∀ ch:List Int,0≤cU c ch r∧cU c ch r≤ch.length
 | []=>by simp [cU]
 | k :: ch=>by
   have:=nF c r ch;have h2:=nA (c.ways.getD k.toNat 0) r;simp only [cU,List.map_cons,List.sum_cons,List.length_cons] at this ⊢;omega
theorem Ha (c:Cr) (ch:List Int) (k:Int) (r:Nat):cU c (ch ++ [k]) r=cU c ch r+gw (c.ways.getD k.toNat 0) r:=by simp [cU]
theorem zz (c:Cr) (r:Nat) (k:Int):∀ (ch:List Int) (u:Nat),u<ch.length→cU c (ch.set u k) r=cU c ch r - gw (c.ways.getD (ch.getD u 0).toNat 0) r+gw (c.ways.getD k.toNat 0) r
 | [],u,h=>by simp at h
 | x :: ch,0,_=>by simp [cU];omega
 | x :: ch,u+1,h=>by
   have:=zz c r k ch u (by simpa using h)
   simp only [cU,List.set_cons_succ,List.map_cons,List.sum_cons,List.getD_cons_succ] at this ⊢;omega
theorem wu (c:Cr) (r:Nat):∀ (ch:List Int) (u:Nat),u<ch.length→gw (c.ways.getD (ch.getD u 0).toNat 0) r≤cU c ch r
 | [],u,h=>by simp at h
 | x :: ch,0,_=>by
   have:=nF c r ch;simp only [cU,List.map_cons,List.sum_cons,List.getD_cons_zero] at this ⊢;omega
 | x :: ch,u+1,h=>by
   have:=wu c r ch u (by simpa using h)
   have h2:=nA (c.ways.getD x.toNat 0) r;simp only [cU,List.map_cons,List.sum_cons,List.getD_cons_succ] at this ⊢;omega
def fG (c:Cr) (r:Nat) (n:Int):Int:=if n=0 then 0 else c.costs.getD ((r:Int) * c.U+n - 1).toNat 0
def pq (c:Cr) (ch:List Int) (w:Int) (r:Nat):Int:=if gw (c.ways.getD w.toNat 0) r=1 then fG c r (cU c ch r) else 0
def df (c:Cr) (ch:List Int) (u:Nat):Int:=gu (pq c ch (ch.getD u 0)) c.R.toNat
def El (c:Cr) (ch:List Int) (r:Nat):Int:=gu (fun k=>fG c r (k+1)) (cU c ch r).toNat
def qC (c:Cr) (ch:List Int):Int:=gu (El c ch) c.R.toNat
theorem gy {xs:List Int} {q:Nat} (h:q<xs.length) (v:Int):(xs.set q v).getD q 0=v:=by simp [List.getD,h]
theorem IY (c:Cr) (ch:List Int) (u:Nat) (k:Int) (hu:u<ch.length):qC c (ch.set u k) - qC c ch=df c (ch.set u k) u - df c ch u:=by
 unfold qC df;rw [← tX,← tX,gy hu];refine vi fun r _=>?_
 have e1:=zz c r k ch u hu;have e2:=wu c r ch u hu;have e3:=nF c r ch;unfold El pq;rw [e1];generalize cU c ch r=L at *
 rcases nA (c.ways.getD (ch.getD u 0).toNat 0) r with hb | hb <;> rcases nA (c.ways.getD k.toNat 0) r with hb' | hb' <;> rw [hb] at e1 e2 ⊢ <;> rw [hb']
 · simp
 · obtain ⟨m,hm⟩:∃ m:Nat,L=m:=⟨L.toNat,by omega⟩
   subst hm;have e4:((m:Int) - 0+1).toNat=m+1:=by omega
   rw [e4,Int.toNat_natCast,gu];simp
   omega
 · obtain ⟨m,hm⟩:∃ m:Nat,L=(m:Int)+1:=⟨(L - 1).toNat,by omega⟩
   subst hm;have e4:((m:Int)+1 - 1+0).toNat=m:=by omega
   have e5:((m:Int)+1).toNat=m+1:=by omega
   rw [e4,e5,gu];simp
   omega
 · have e4:L - 1+1=L:=by omega
   rw [e4];simp
def jW (f:Nat→Int) (l:Int):Nat→Option Nat × Int
 | 0=>(none,l)
 | k+1=>if f k<(jW f l k).2 then (some k,f k) else jW f l k
theorem rB (f:Nat→Int) (l:Int):∀ n,(match (jW f l n).1 with | none=>(jW f l n).2=l | some k=>k<n∧(jW f l n).2=f k∧f k<l)∧(jW f l n).2≤l∧∀ k,k<n→(jW f l n).2≤f k
 | 0=>⟨rfl,Int.le_refl _,fun k hk=>by omega⟩
 | n+1=>by
   obtain ⟨h1,h2,h3⟩:=rB f l n;rw [jW]
   by_cases h:f n<(jW f l n).2
   · rw [if_pos h]
     refine ⟨⟨by omega,rfl,by omega⟩,by show f n≤l;omega,fun k hk=>?_⟩
     by_cases e:k=n
     · subst e;exact Int.le_refl _
     · have:=h3 k (by omega);show f n≤f k;omega
   · rw [if_neg h]
     refine ⟨?_,h2,fun k hk=>?_⟩
     · cases hs:(jW f l n).1 with
       | none=>rw [hs] at h1;exact h1
       | some k=>rw [hs] at h1;exact ⟨by omega,h1.2⟩
     · by_cases e:k=n
       · subst e;omega
       · exact h3 k (by omega)
def vW (c:Cr) (ch:List Int) (u:Nat):Option Nat:=(jW (fun k=>df c (ch.set u (k:Int)) u) (df c ch u) c.ways.length).1
def fK (c:Cr) (ch:List Int):Nat→Nat→Option (Nat × Nat)
 | 0,_=>none
 | f+1,u=>match vW c ch u with
   | some k=>some (u,k)
   | none=>fK c ch f (u+1)
def cQ (c:Cr) (ch:List Int):Option (Nat × Nat):=fK c ch ch.length 0
theorem GI {c:Cr} {ch:List Int} {u k:Nat} (h:vW c ch u=some k):k<c.ways.length∧df c (ch.set u (k:Int)) u<df c ch u:=by
 have:=(rB (fun k=>df c (ch.set u (k:Int)) u) (df c ch u) c.ways.length).1
 unfold vW at h;rw [h] at this;exact ⟨this.1,this.2.2⟩
theorem oq {c:Cr} {ch:List Int} {p:Nat × Nat}:∀ {f u:Nat},fK c ch f u=some p→p.1<u+f∧vW c ch p.1=some p.2
 | 0,_,h=>by simp [fK] at h
 | f+1,u,h=>by
   rw [fK] at h
   split at h
   case h_1 k hk=>injection h with h;subst h;exact ⟨by omega,hk⟩
   case h_2=>have:=oq h;exact ⟨by omega,this.2⟩
theorem iL {c:Cr} {ch:List Int} {u k:Nat} (h:cQ c ch=some (u,k)):u<ch.length∧k<c.ways.length∧qC c (ch.set u (k:Int))<qC c ch:=by
 obtain ⟨h1,h2⟩:=oq h;obtain ⟨h3,h4⟩:=GI h2;have hu:u<ch.length:=by simpa using h1
 have:=IY c ch u k hu;exact ⟨hu,h3,by simp only at h4;omega⟩
def bt (c:Cr):Bool:=eu c.U 1 8 && eu c.R 1 8 && cH c.ways 1 8 1 (2 ^ c.R.toNat - 1) && cH c.costs (c.U * c.R) (c.U * c.R) (-100000) 100000
structure Valid (c:Cr):Prop where
 u1:1≤c.U
 u8:c.U≤8
 r1:1≤c.R
 r8:c.R≤8
 w1:1≤c.ways.length
 w8:c.ways.length≤8
 way:∀ x∈c.ways,1≤x∧x≤255
 clen:(c.costs.length:Int)=c.U * c.R
 cost:∀ x∈c.costs,-100000≤x∧x≤100000
theorem ee {c:Cr} (h:bt c=true):Valid c:=by
 simp only [bt,Bool.and_eq_true,bH,fT] at h;obtain ⟨⟨⟨⟨h1,h2⟩,h3,h4⟩,⟨h5,h6⟩,h7⟩,⟨h8,h9⟩,h10⟩:=h;refine ⟨h1,h2,h3,h4,by omega,by omega,fun x hx=>?_,by omega,h10⟩
 have h11:=h7 x hx;have:(2:Int) ^ c.R.toNat≤2 ^ 8:=by
  have:(2:Nat) ^ c.R.toNat≤2 ^ 8:=Nat.pow_le_pow_right (by omega) (by omega)
  exact_mod_cast this
 omega
def jb (c:Cr) (ch:List Int):Bool:=bt c && cH ch c.U c.U 0 ((c.ways.length:Int) - 1)
structure Can (c:Cr) (ch:List Int):Prop where
 v:Valid c
 len:(ch.length:Int)=c.U
 mem:∀ x∈ch,0≤x∧x<c.ways.length
theorem zn {c:Cr} {ch:List Int} (h:jb c ch=true):Can c ch:=by
 simp only [jb,Bool.and_eq_true,fT] at h;obtain ⟨h1,⟨h2,h3⟩,h4⟩:=h;exact ⟨ee h1,by omega,fun x hx=>by have:=h4 x hx;omega⟩
theorem Can.set {c:Cr} {ch:List Int} (h:Can c ch) {u k:Nat} (hk:k<c.ways.length):Can c (ch.set u (k:Int)) :=
 ⟨h.v,by rw [List.length_set];exact h.len,fun x hx=>by
   rcases List.mem_or_eq_of_mem_set hx with hx | rfl
   · exact h.mem x hx
   · omega⟩
theorem ny {c:Cr} (h:Valid c) (r:Nat) (n:Int):-100000≤fG c r n∧fG c r n≤100000:=by
 unfold fG
 split
 · omega
 · by_cases hj:((r:Int) * c.U+n - 1).toNat<c.costs.length
   · exact h.cost _ (List.mem_of_getElem? (rh hj))
   · rw [List.getD_eq_getElem?_getD,List.getElem?_eq_none (by omega),Option.getD_none];omega
theorem wH {c:Cr} (h:Valid c) (ch:List Int) (u:Nat):-800000≤df c ch u∧df c ch u≤800000:=by
 have:=nr (f:=pq c ch (ch.getD u 0)) (m:=100000) (n:=c.R.toNat) (fun i _=>by
  unfold pq
  split
  · exact ny h i _
  · omega)
 have h8:=h.r8;unfold df;omega
theorem mj {c:Cr} {ch:List Int} (h:Can c ch):-6400000≤qC c ch∧qC c ch≤6400000:=by
 have h1:=h.len;have h2:=h.v.u8;have:=nr (f:=El c ch) (m:=800000) (n:=c.R.toNat) (fun r _=>by
  unfold El;have hl:=nF c r ch;have:=nr (f:=fun k=>fG c r (k+1)) (m:=100000) (n:=(cU c ch r).toNat) (fun i _=>ny h.v r _)
  omega)
 have h8:=h.v.r8;unfold qC;omega
def iT (c:Cr):Nat→List Int→List Int × Nat
 | 0,ch=>(ch,0)
 | n+1,ch=>match cQ c ch with
   | none=>(ch,0)
   | some (u,k)=>((iT c n (ch.set u (k:Int))).1,(iT c n (ch.set u (k:Int))).2+1)
def eT (c:Cr) (ch:List Int):Nat:=(qC c ch+6400000).toNat
def eH (c:Cr) (ch:List Int):List Int × Nat:=iT c (eT c ch+1) ch
theorem rC {c:Cr}:∀ {n m:Nat} {ch:List Int},Can c ch→eT c ch<n→eT c ch<m→iT c n ch=iT c m ch
 | 0,_,_,_,h,_=>by omega
 | _+1,0,_,_,_,h=>by omega
 | n+1,m+1,ch,hc,h1,h2=>by
   rw [iT,iT]
   cases hb:cQ c ch with
   | none=>rfl
   | some p =>
     obtain ⟨u,k⟩:=p;obtain ⟨_,h4,h5⟩:=iL hb;have b1:=mj hc;have b2:=mj (hc.set (u:=u) h4);have:eT c (ch.set u (k:Int))<eT c ch:=by unfold eT;omega
     simp only;rw [rC (n:=n) (m:=m) (hc.set h4) (by omega) (by omega)]
theorem DL {c:Cr} {ch:List Int} (h:cQ c ch=none):eH c ch=(ch,0):=by rw [eH,iT,h]
theorem DQ {c:Cr} {ch:List Int} {u k:Nat} (hc:Can c ch) (h:cQ c ch=some (u,k)):eH c ch=((eH c (ch.set u (k:Int))).1,(eH c (ch.set u (k:Int))).2+1):=by
 obtain ⟨_,h4,h5⟩:=iL h;have b1:=mj hc;have b2:=mj (hc.set (u:=u) h4);have hm:eT c (ch.set u (k:Int))<eT c ch:=by unfold eT;omega
 rw [eH,iT,h,eH];simp only;rw [rC (n:=eT c ch) (m:=eT c (ch.set u (k:Int))+1) (hc.set h4) (by omega) (by omega)]
theorem yf {c:Cr} {ch:List Int} {u k:Nat} (hc:Can c ch) (h:cQ c ch=some (u,k)):eT c (ch.set u (k:Int))<eT c ch:=by
 obtain ⟨_,h4,h5⟩:=iL h;have b1:=mj hc;have b2:=mj (hc.set (u:=u) h4);unfold eT;omega
theorem uT {c:Cr}:∀ {n:Nat} {ch:List Int},Can c ch→eT c ch<n→Can c (iT c n ch).1∧cQ c (iT c n ch).1=none∧(iT c n ch).2+eT c (iT c n ch).1≤eT c ch
 | 0,_,_,h=>by omega
 | n+1,ch,hc,h1=>by
   rw [iT]
   cases hb:cQ c ch with
   | none=>exact ⟨hc,hb,by simp⟩
   | some p =>
     obtain ⟨u,k⟩:=p;have h4:=(iL hb).2.1;have:=yf hc hb;obtain ⟨i1,i2,i3⟩:=uT (n:=n) (hc.set (u:=u) h4) (by omega)
     exact ⟨i1,i2,by simp only;omega⟩
theorem qg {c:Cr} {ch:List Int} (hc:Can c ch):Can c (eH c ch).1∧cQ c (eH c ch).1=none∧(eH c ch).2+eT c (eH c ch).1≤eT c ch:=uT hc (by omega)
end Go.Proofs.YtbknhgapjjaelaaGreatDoor
