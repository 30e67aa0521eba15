/- module.Check answers what P9.2 says, at all texts and imports. The row lists tables of Go's library, tied to the program's text. -/
import Derived.Test.YtjaladhdnbhliaaGreatDoorQModuleChecksW
import Derived.Test.YtjaladhdnbhliaaGreatDoorCards
import Derived.Test.YtjaladhdnbhliaaGreatDoorTie
set_option maxHeartbeats 8000000
namespace Go.Proofs.YtjaladhdnbhliaaGreatDoor
open Go.Proofs.Tryz
open Go.ChangeShapes Go.WideShapes Go.ChangeAt Go.RowKit
open Go.ChangeMaps (open_string)
set_option maxRecDepth 100000 in
theorem BN{H:Type}{enc:TypeId×Value→H}(W:World)(base:Nat)(args:Array Value)(ds:List (DataW H))(ps:List MemPlace)
  (hval:∀(j:Nat) t v,Tryz.f5.params[j]? =some t→args[j]? =some v→Value.okWide Tryz.checked.prog W .any base t v)
  (hA:DataW.TrodAll enc Tryz.checked.prog W 0 (fun _=>true) true Tryz.f5.params.toList args.toList ds ps) (hlt:∀x∈ps,x.block<W.heap.size)
  (hsz:(DataW.weightsEach Tryz.checked.prog Tryz.f5.params.toList ds).all (· ≤reachBytes)=true) (_hL:laidMetH Tryz.checked.prog Rows.moduleChecksRow.laid W) (hsh:W.ShapedOpen Tryz.checked.prog):
  Calls Tryz.checked.prog 5 args W fun e W'=>e=.returned (.bool true)∧Below W.heap.size W W':=by
 rw[params5]at hA hval hsz;obtain⟨v0,v1,d0,d1,p0,p1,rfl,rfl,rfl,h0,h1⟩:=trodAll_two hA;obtain⟨s0,rfl,rfl,rfl,_⟩:=open_string underlying9 (hval 0 _ v0 rfl rfl) h0;obtain⟨l1,hr1⟩:=aaO underlying38 (fun N=>Ob) (hval 1 _ v1 rfl rfl) h1 (fun x hx=>hlt x (by simp[hx])) (yO hsz (j:=1) rfl rfl);have hL:laidMet prog Rows.moduleChecksRow.laid W:=_hL;obtain⟨m,hT⟩:=JE (laidMet.tail (laidMet.tail hL)) rfl (laidMet.tail (laidMet.tail (laidMet.tail (laidMet.tail hL)))) (laidMet.tail (laidMet.tail (laidMet.tail (laidMet.tail (laidMet.tail hL))))) hsh;exact DF s0 v1 l1 m W (Cm (sized_string hsz (j:=0) rfl rfl)) hr1 hT
theorem DI:joinedFacts prog 5 Tryz.f5 Rows.moduleChecksSpec Rows.moduleChecksRow=true:=by
 unfold joinedFacts;exact ZB (by as_aux_lemma=>kernel_rfl) Tryz.laidOut Tryz.mapsRowed (by as_aux_lemma=>kernel_rfl) (by as_aux_lemma=>kernel_rfl) (by as_aux_lemma=>kernel_rfl) (by as_aux_lemma=>kernel_rfl) (by as_aux_lemma=>kernel_rfl) (by as_aux_lemma=>kernel_rfl) (by as_aux_lemma=>kernel_rfl) (by as_aux_lemma=>kernel_rfl) (by as_aux_lemma=>kernel_rfl) (by as_aux_lemma=>kernel_rfl) (by as_aux_lemma=>kernel_rfl) (by as_aux_lemma=>kernel_rfl) (by as_aux_lemma=>kernel_rfl) (by as_aux_lemma=>kernel_rfl) (by as_aux_lemma=>kernel_rfl) (by as_aux_lemma=>kernel_rfl) (by as_aux_lemma=>kernel_rfl) (by as_aux_lemma=>kernel_rfl) (by as_aux_lemma=>kernel_rfl) (by as_aux_lemma=>kernel_rfl) (by as_aux_lemma=>kernel_rfl) Tryz.stopsHeard Tryz.mayEnter (by rw[Tryz.liftsFinal];kernel_rfl) (by rw[Tryz.make];kernel_rfl) (by as_aux_lemma=>kernel_rfl) (by as_aux_lemma=>kernel_rfl) (by as_aux_lemma=>kernel_rfl) (by as_aux_lemma=>kernel_rfl)
set_option maxRecDepth 1000000 in
theorem G9(os:Os):laidMet prog Rows.moduleChecksRow.laid ((jo (World.holding prog os ⟨gX,#[],[]⟩)).forCall (fun _ _=>0) ⟨#[],#[.string ⟨#[]⟩,.slice none 0 0],[]⟩).memory:=
 laidMet_of_run' 8 (by kernel_rfl) (by kernel_rfl)
set_option maxRecDepth 1000000 in
theorem DN(os:Os){H:Type}(enc:TypeId×Value→H):∃places,DataW.whole enc prog ((jo (World.holding prog os ⟨gX,#[],[]⟩)).forCall (fun _ _=>0) ⟨#[],#[.string ⟨#[]⟩,.slice none 0 0],[]⟩).memory Tryz.f5.params.toList Rows.moduleChecksSpec.vars false #[Value.string ⟨#[]⟩,Value.slice none 0 0].toList 8=some ([.lit (.string []),.nil],[],places):=
 ⟨[],by kernel_rfl⟩
set_option maxRecDepth 1000000 in
theorem He(os:Os):Input.okWideB prog ((jo (World.holding prog os ⟨gX,#[],[]⟩)).forCall (fun _ _=>0) ⟨#[],#[.string ⟨#[]⟩,.slice none 0 0],[]⟩) 5 ⟨#[],#[.string ⟨#[]⟩,.slice none 0 0],[]⟩=true:=by kernel_rfl
set_option maxRecDepth 1000000 in
theorem Fz(os:Os):((jo (World.holding prog os ⟨gX,#[],[]⟩)).forCall (fun _ _=>0) ⟨#[],#[.string ⟨#[]⟩,.slice none 0 0],[]⟩).variablesB prog=true:=by kernel_rfl
set_option maxRecDepth 1000000 in
theorem Fq(os:Os):(((jo (World.holding prog os ⟨gX,#[],[]⟩)).forCall (fun _ _=>0) ⟨#[],#[.string ⟨#[]⟩,.slice none 0 0],[]⟩).heap.toList.drop prog.globals.size).take ((begin prog (fun _ _=>0) default).world.heap.size-prog.globals.size)=(begin prog (fun _ _=>0) default).world.heap.toList.drop prog.globals.size:=by kernel_rfl
set_option maxRecDepth 1000000 in
theorem BM(os:Os)(started:os.Started)(H:Type)(enc:TypeId×Value→H)(F:Stop.Interp):
  ReturnsInHanded {} Tryz.checked os 5 .any ((OpenSpec.ofChange Rows.moduleChecksSpec).preRow enc prog Tryz.f5 Rows.moduleChecksRow.domain false Rows.moduleChecksRow.laid) (((OpenSpec.ofChange Rows.moduleChecksSpec).at F).post enc prog Tryz.f5 false true false false):=by
 obtain⟨places,hx⟩:=DN os enc;refine Jy (C:=Tryz.checked) (s:=Rows.moduleChecksSpec) started Tryz.own Tryz.laidOut (by as_aux_lemma=>kernel_rfl) func5
  (witness_row_at (enc:=enc) (C:=Tryz.checked) false (jo (World.holding prog os ⟨gX,#[],[]⟩)) #[.string ⟨#[]⟩,.slice none 0 0] rfl (Fz os) (Fq os) (He os)
   (OpenSpec.preRow_of_cond 8 hx (by kernel_rfl) (fun k hk=>by cases hk) (by kernel_rfl) (G9 os)))
  (by as_aux_lemma=>kernel_rfl) rfl underlying4 rfl
  (fun ds hd=>match ds,hd with|[d0,d1],_=>⟨rfl,rfl,rfl⟩)
  BN
set_option maxRecDepth 1000000 in
theorem Fv:Rows.ModuleChecksSaid:=
 OpenClaim.holds_of_cond 5 Tryz.f5 rfl rfl rfl rfl rfl rfl rfl ⟨rfl,rfl,rfl,rfl,rfl⟩ rfl rfl rfl rfl rfl (by as_aux_lemma=>kernel_rfl) func5 DI
  (of_decide_eq_true (by as_aux_lemma=>kernel_rfl)) (by unfold Func.isWrapper;first|(rw[if_pos (by decide +kernel)];kernel_rfl)|(rw[if_neg (by decide +kernel)];exact⟨rfl,rfl⟩))
  (fun os started H enc _ F=>by rw[OpenClaim.pre_eq_preRow];exact BM os started H enc F)
theorem DK:prog.funcNamed Rows.moduleChecksRow.func=some 5:=by kernel_rfl
theorem Fp:(Tryz.f5.params.toList.all fun t=> !prog.wantsStandIn t)=true:=by kernel_rfl
theorem DJ:Rows.moduleChecksCard.stood.looks=prog.looks []:=by kernel_rfl
theorem DL(f:FuncId)(fn:Go.Func)(hf:Tryz.pinned.checked.prog.funcNamed Rows.moduleChecksRow.func=some f)(hfn:Tryz.pinned.checked.prog.funcs[f]? =some fn):
  Rows.moduleChecksCard.stood.looks=Tryz.pinned.checked.prog.looks []∧∀(j:Nat) t,fn.params[j]? =some t→Tryz.pinned.checked.prog.wantsStandIn t=false:=by
 obtain rfl:f=5:=Option.some.inj (hf.symm.trans DK);obtain rfl:fn=Tryz.f5:=Option.some.inj (hfn.symm.trans func5);refine⟨DJ,fun j t ht=>?_⟩;have h:=List.all_eq_true.1 Fp t (by simpa using Array.mem_of_getElem? ht);have h2:prog.wantsStandIn t=false:=by simpa using h
 exact h2
theorem moduleChecks_holds:Rows.ModuleChecksCardSaid:=
 Claim7.holds_tied_plain_at .later [] _ _ _ _ Fv (fun _ h=>by cases h) (by kernel_rfl) (fun _ h=>by cases h) moduleChecks_row_tie rfl ⟨rfl,rfl⟩ (by kernel_rfl) rfl DL (by kernel_rfl)
#print axioms moduleChecks_holds
end Go.Proofs.YtjaladhdnbhliaaGreatDoor
