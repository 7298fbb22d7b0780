/-
  FnJournal answers true for every input, and its arguments read as before; the listed variables are as the program's text lays them.
-/
import Derived.Test.YtbknhgapjjaelaaGreatDoorPj01
import Derived.Test.YtbknhgapjjaelaaGreatDoorRows
import Derived.Test.YtbknhgapjjaelaaGreatDoorCards
import Derived.Test.YtbknhgapjjaelaaGreatDoorTie
import Derived.WalkKit
import Derived.ProofKit
import Derived.OpenShut
import Derived.ShutString
import Derived.ChangeOld
import Derived.Below
import Derived.LaidMore
import Derived.LaidSub
import Derived.Lay
import Derived.SevenTiedAt
import Derived.Stop.Joined
import Derived.Test.YtbknhgapjjaelaaGreatDoorPj22
import Derived.Test.YtbknhgapjjaelaaGreatDoorPj48
namespace Go.Proofs.YtbknhgapjjaelaaGreatDoor.fnJournal
open Go.ChangeShapes Go.WideShapes Go.ChangeAt Go.RowKit
open Go.ChangeMaps (open_string shut_string)
set_option linter.unusedVariables false
theorem own:ownKnob Tryz.prog.godebug=none:=by kernel_rfl
theorem laidOut:laidOutB Tryz.prog=true:=by kernel_rfl
theorem wrap {H:Type} {enc:TypeId × Value→H} {a:Assume} {C:Checked} {os:Os} {f:FuncId} {fn:Func} {s:ChangeSpec} {conds:List PathCond} {apart fresh handsOn again:Bool} {X:World→Array Value→Prop}
 (hX:∀ (w w':World) (args:Array Value),w.heap=w'.heap→X w args→X w' args)
 (own:ownKnob C.prog.godebug=none) (started:os.Started) (noInit:C.prog.inits.idxOf? f=none) (hfn:C.prog.funcs[f]? = some fn)
 (witness:∃ (w:World) (tape:Tape) (i:Input),w.os=os∧(w.forCall tape i).Shaped C.prog∧i.vars=[]∧Input.okWide C.prog (w.forCall tape i) .any w.heap.size f i ∧
   ((s.pre enc C.prog fn conds apart (w.forCall tape i).memory i.args∧X (w.forCall tape i).memory i.args)∧sizedMet enc C.prog fn (OpenSpec.ofChange s) apart (w.forCall tape i).memory i.args)∧a.holds C.prog (lone (Frame.enter C.prog f i.args .normal) [] (w.forCall tape i)))
 (contract:∀ (W:World) (base:Nat) (args:Array Value) (ds gs:List (DataW H)) (before:List MemPlace),
   (∀ (j:Nat) t v,fn.params[j]? = some t→args[j]? = some v→Value.okWide C.prog W .any base t v) →
   DataW.Whole enc C.prog fn.params.toList s.vars apart W args.toList ds gs before→X W args→W.ShapedOpen C.prog →
   Calls C.prog f args W fun e W'=>∃ v,e=.returned v∧s.post enc C.prog fn apart fresh handsOn again W args v W') :
 ReturnsInHanded a C os f .any (fun w args=>(s.pre enc C.prog fn conds apart w args∧X w args)∧sizedMet enc C.prog fn (OpenSpec.ofChange s) apart w args) (s.post enc C.prog fn apart fresh handsOn again):=by
 refine returnsInHanded_of_calls own started noInit witness ?_
 intro w tape i _ hsh _ hok hpre hholds;obtain ⟨_,_,_,fn',hfn',_,_,_,_,hval⟩:=hok;have e:fn'=fn:=Option.some.inj (hfn'.symm.trans hfn);subst e;obtain ⟨⟨⟨ds,gs,before,hw,hc⟩,hx⟩,hz⟩:=hpre;have hw':=DataW.Whole.of_heap (w':=w.forCall tape i) (by rfl) hw
 refine (contract (w.forCall tape i) w.heap.size i.args ds gs before hval hw' (hX _ _ _ (by rfl) hx) hsh).mono fun e W' ⟨v,he,hp⟩=>?_
 subst he;exact ChangeSpec.post_blind hp
theorem tabOf {W:World} (hL:laidMetH Tryz.prog Rows.fnJournalRow.laid W):Tab W:=by
 have h := laidMetH.filter (fun x => x.1 == "internal/strconv.uint64pow10") hL
 rw [MakeChecks.laidMetH_plain _ _ _ (by kernel_rfl)] at h
 have h2 : laidMet Tryz.prog (("internal/strconv.uint64pow10", Lib.tabData .u64 Lib.pow10Tab) :: []) W := h;exact Lib.tabIs_of_head (g:=2) (t:=245) (e:=106) (n:=20) (by kernel_rfl) (by kernel_rfl) (by kernel_rfl) (by kernel_rfl) (by kernel_rfl) (by kernel_rfl) h2
theorem errsOf {W:World} (hL:laidMetH Tryz.prog Rows.fnJournalRow.laid W):Errs W:=by
 constructor
 · have h := laidMetH.filter (fun x => x.1 == "strconv.ErrSyntax") hL
   rw [MakeChecks.laidMetH_plain _ _ _ (by kernel_rfl)] at h
   have h2 : laidMet Tryz.prog (("strconv.ErrSyntax", Rows.laid_strconv_ErrSyntax) :: []) W := h;exact pQ (g:=3) (t:=87) (by kernel_rfl) (by kernel_rfl) Tryz.underlying87 h2
 · have h := laidMetH.filter (fun x => x.1 == "strconv.ErrRange") hL
   rw [MakeChecks.laidMetH_plain _ _ _ (by kernel_rfl)] at h
   have h2 : laidMet Tryz.prog (("strconv.ErrRange", Rows.laid_strconv_ErrRange) :: []) W := h;exact pQ (g:=4) (t:=87) (by kernel_rfl) (by kernel_rfl) Tryz.underlying87 h2
theorem bitOf {W:World} (hL:laidMetH Tryz.prog Rows.fnJournalRow.laid W):TabB W:=by
 have h := laidMetH.filter (fun x => x.1 == "math/bits.deBruijn64tab") hL
 rw [MakeChecks.laidMetH_plain _ _ _ (by kernel_rfl)] at h
 have h2 : laidMet Tryz.prog (("math/bits.deBruijn64tab", Lib.tabData .u8 [0, 1, 56, 2, 57, 49, 28, 3, 61, 58, 42, 50, 38, 29, 17, 4, 62, 47, 59, 36, 45, 43, 51, 22, 53, 39, 33, 30, 24, 18, 12, 5, 63, 55, 48, 27, 60, 41, 37, 16, 46, 35, 44, 21, 52, 32, 23, 11, 54, 26, 40, 15, 34, 20, 31, 10, 25, 14, 19, 9, 13, 8, 7, 6]) :: []) W := h;have h3:=Lib.tabIs_of_head (g:=8) (t:=279) (e:=5) (n:=64) (by kernel_rfl) (by kernel_rfl) (by kernel_rfl) (by kernel_rfl) (by kernel_rfl) (by kernel_rfl) h2
 have h4:=World.var?_cell (g:=8) (by kernel_rfl) h3 15
 exact h4
theorem envOf {W:World} (hL:laidMetH Tryz.prog Rows.fnJournalRow.laid W) (hs:W.ShapedOpen Tryz.prog):Env W:=⟨tabOf hL,CY W hs,errsOf hL,bitOf hL⟩
set_option maxRecDepth 100000 in
theorem lifted (os:Os) (started:os.Started) (H:Type) (enc:TypeId × Value→H) :
 ReturnsInHanded {} Tryz.checked os 4 .any (fun w args=>(Rows.fnJournalSpec.pre enc Tryz.prog Tryz.f4 [] false w args∧laidMetH Tryz.prog Rows.fnJournalRow.laid w)∧sizedMet enc Tryz.prog Tryz.f4 (OpenSpec.ofChange Rows.fnJournalSpec) false w args)
  (Rows.fnJournalSpec.post enc Tryz.prog Tryz.f4 false true false false):=by
 refine wrap (C:=Tryz.checked) (X:=fun w _=>laidMetH Tryz.prog Rows.fnJournalRow.laid w) (fun _ _ _ hh h=>h.of_heap hh) own started (by kernel_rfl) Tryz.func4
  (ChangeSpec.witness_shaped (enc:=enc) (C:=Tryz.checked) (os:=os) (X:=fun w _=>laidMetH Tryz.prog Rows.fnJournalRow.laid w) false (World.laidAll Tryz.prog os Rows.fnJournalRow.laid) #[.slice none 0 0,.slice none 0 0] 8 (World.laidAll_os _ _ _)
    (World.shaped_of_ZipB (by kernel_rfl) (by kernel_rfl)) (by kernel_rfl) (by kernel_rfl) (by kernel_rfl)
    (by rw [MakeChecks.laidMetH_plain _ _ _ (by kernel_rfl)];exact laidMet_laidAll _ (by kernel_rfl) (by kernel_rfl))) ?_
 intro W base args ds gs before hval0 hW hL hsh;have hval:∀ (j:Nat) t v,Tryz.f4.params[j]? = some t→args[j]? = some v→Value.okWide Tryz.prog W .any base t v:=hval0;have hW':=hW;obtain ⟨p,q,hA0,hV,rfl,hfz,hnd⟩:=hW;have hA:DataW.TrodAll enc Tryz.prog W 0 (fun _=>true) true Tryz.f4.params.toList args.toList ds p:=hA0
 rw [Tryz.params4] at hA hval;obtain ⟨v0,vs0,d0,ds0,p0,q0,hargs,rfl,rfl,h0,r0⟩:=trodAll_cons hA;obtain ⟨v1,vs1,d1,ds1,p1,q1,rfl,rfl,rfl,h1,r1⟩:=trodAll_cons r0;obtain ⟨rfl,rfl,rfl⟩:=trodAll_nil r1;obtain rfl:args = #[v0,v1]:=by cases args;simp_all
 obtain ⟨rfl,rfl⟩:=trodVars_none hV;obtain ⟨a0,len0,cap0,rfl⟩:=okWide_slice Tryz.underlying22 (hval 0 22 v0 rfl rfl);have k0:=h0;have lt0:∀ x∈p0,x.block<W.heap.size:=by obtain ⟨m,hm⟩:=k0;exact DataW.trod_lt m _ _ _ hm
 obtain ⟨x0,hx0,rd0,l0,b0⟩:=xY Tryz.underlying22 Tryz.underlying5 (by kernel_rfl) h0
 subst hx0;obtain ⟨a1,len1,cap1,rfl⟩:=okWide_slice Tryz.underlying22 (hval 1 22 v1 rfl rfl);have k1:=h1;have lt1:∀ x∈p1,x.block<W.heap.size:=by obtain ⟨m,hm⟩:=k1;exact DataW.trod_lt m _ _ _ hm
 obtain ⟨x1,hx1,rd1,l1,b1⟩:=xY Tryz.underlying22 Tryz.underlying5 (by kernel_rfl) h1
 subst hx1;clear hA0 hval0;refine (CT W (envOf hL hsh) a0 a1 cap0 cap1 x0 x1 rd0 rd1 l0 l1 b0 b1).mono fun e W' ⟨he,bel⟩=>?_
 subst he;exact ⟨_,rfl,_,_,_,[],_,[],hW',trodAll_mk1 (shut_bool Tryz.underlying4 _),(trodAll_cons_mk (Below.trod laidOut (by kernel_rfl) (of_decide_eq_true (by kernel_rfl)) k0 bel lt0) (trodAll_cons_mk (Below.trod laidOut (by kernel_rfl) (of_decide_eq_true (by kernel_rfl)) k1 bel lt1) trodAll_mk0)),rfl,bel.frame _,fun h=>by cases h⟩
theorem fIn:(Rows.fnJournalRow.inPlace == (Tryz.pinned).checked.prog.inPlace 4)=true:=by kernel_rfl
theorem fUn:(Rows.fnJournalRow.unfollowed == (Tryz.pinned).checked.prog.unfollowed 4)=true:=by kernel_rfl
theorem fRe:(Rows.fnJournalRow.recurses == (Tryz.pinned).checked.prog.recurses 4)=true:=by kernel_rfl
theorem fNa:(Rows.fnJournalRow.named == (Tryz.pinned).checked.prog.varsNamed 4)=true:=by kernel_rfl
theorem joined:joinedFacts (Tryz.pinned).checked.prog 4 Tryz.f4 Rows.fnJournalSpec Rows.fnJournalRow=true:=by
 unfold joinedFacts;rw [fIn,fUn,fRe,fNa]
 kernel_rfl
theorem hwf:Rows.fnJournalRow.wfByText (OpenSpec.ofChange Rows.fnJournalSpec)=true:=by kernel_rfl
theorem hmain:(Tryz.pinned).checked.prog.mainIs=some (Rows.fnJournalCard.stood.harness.1,Rows.fnJournalCard.stood.harness.2.toList):=by kernel_rfl
theorem hlooks:true=(Tryz.pinned).checked.prog.looks []:=by kernel_rfl
theorem goesA:((Tryz.pinned).checked.prog.closure 4).any (fun g=>((Tryz.pinned).checked.prog.funcs[g]?).any Func.goes)=false:=by kernel_rfl
theorem goesB:(Tryz.pinned).checked.prog.funcs.any Func.goes=false:=by kernel_rfl
theorem hgoes:false=Rows.fnJournalRow.goesBy (Tryz.pinned).checked.prog:=by
 have h1:(Tryz.pinned).checked.prog.funcNamed Rows.fnJournalRow.func=some 4:=by kernel_rfl
 have h2:(Tryz.pinned).checked.prog.goes 4=false:=by
  unfold Program.goes;rw [goesA,goesB,Bool.and_false];rfl
 unfold OpenClaim.goesBy Program.goesAt Program.goesFrom;rw [h1,Option.any_some,h2]
 rfl
theorem over:Rows.fnJournalRow.holds Tryz.pinned (OpenSpec.ofChange Rows.fnJournalSpec) :=
 OpenClaim.holds_of_wide 4 Tryz.f4 rfl rfl rfl rfl rfl rfl rfl ⟨rfl,rfl,rfl,rfl,rfl⟩ rfl rfl rfl rfl rfl (by kernel_rfl) Tryz.func4 joined (of_decide_eq_true (by kernel_rfl)) (by unfold Func.isWrapper;first | (rw [if_pos (by decide +kernel)];kernel_rfl) | (rw [if_neg (by decide +kernel)];exact ⟨rfl,rfl⟩))
  (fun os started H enc _=>lifted os started H enc)
theorem proved:Rows.FnJournalCardSaid :=
 Claim7.holds_tied_plain_at .later [] Rows.fnJournalCard.laidKinds true Rows.fnJournalCard.stood.harness true
  over (fun _ h=>by cases h) hwf (fun _ h=>by cases h) fnJournal_row_tie rfl ⟨rfl,rfl⟩ hmain rfl
  (fun f fn hf hfn=>by
    obtain rfl : f = 4 := Option.some.inj ((show Tryz.prog.funcNamed "loop.example/g01365/laws.FnJournal" = some 4 by kernel_rfl).symm.trans hf) |>.symm
    obtain rfl:fn=Tryz.f4:=(Option.some.inj (Tryz.func4.symm.trans hfn)).symm;exact ⟨hlooks,fun j t ht=>by
     rw [Tryz.params4] at ht;have hm:t∈[22]:=by simpa using Array.mem_of_getElem? ht
     have hall:([22].all fun u=>!Tryz.prog.wantsStandIn u)=true:=by kernel_rfl
     exact (show Tryz.prog.wantsStandIn t=false by simpa using List.all_eq_true.1 hall t hm)⟩)
  hgoes
#print axioms proved
end Go.Proofs.YtbknhgapjjaelaaGreatDoor.fnJournal
