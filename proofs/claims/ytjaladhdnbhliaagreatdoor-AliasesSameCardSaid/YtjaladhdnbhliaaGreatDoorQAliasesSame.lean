/- A type that is another one is the same; those that are each other are told: at all raw things. The row lists tables of Go's library, tied to the program's text. -/
import Derived.Test.YtjaladhdnbhliaaGreatDoorQAliasesSameW
import Derived.Test.YtjaladhdnbhliaaGreatDoorCards
import Derived.Test.YtjaladhdnbhliaaGreatDoorTie
set_option maxHeartbeats 8000000
namespace Go.Proofs.YtjaladhdnbhliaaGreatDoor
open Go.Proofs.Tryz
open Go.ChangeShapes Go.WideShapes Go.ChangeAt Go.RowKit
open Go.ChangeMaps (open_string)
set_option maxRecDepth 100000 in
theorem CV{H:Type}{enc:TypeId×Value→H}(W:World)(base:Nat)(args:Array Value)(ds:List (DataW H))(ps:List MemPlace)
  (hval:∀(j:Nat) t v,Tryz.f8.params[j]? =some t→args[j]? =some v→Value.okWide Tryz.checked.prog W .any base t v)
  (hA:DataW.TrodAll enc Tryz.checked.prog W 0 (fun _=>true) true Tryz.f8.params.toList args.toList ds ps) (hlt:∀x∈ps,x.block<W.heap.size)
  (hsz:(DataW.weightsEach Tryz.checked.prog Tryz.f8.params.toList ds).all (· ≤reachBytes)=true) (_hL:laidMetH Tryz.checked.prog Rows.aliasesSameRow.laid W) (hsh:W.ShapedOpen Tryz.checked.prog):
  Calls Tryz.checked.prog 8 args W fun e W'=>e=.returned (.bool true)∧Below W.heap.size W W':=by
 rw[params8]at hA hval hsz;obtain⟨v0,v1,d0,d1,p0,p1,rfl,rfl,rfl,h0,h1⟩:=trodAll_two hA;obtain⟨c0,x0,rfl,hr0⟩:=CX underlying56 (fun N=>Hl) (hval 0 _ v0 rfl rfl) h0 (fun x hx=>hlt x (by simp[hx])) (yO hsz (j:=0) rfl rfl);obtain⟨n1,rfl,rfl,rfl,w1⟩:=open_int underlying3 (hval 1 _ v1 rfl rfl) h1;have hL:laidMet prog Rows.aliasesSameRow.laid W:=_hL;obtain⟨m,hT⟩:=JE (laidMet.tail (laidMet.tail hL)) rfl (laidMet.tail (laidMet.tail (laidMet.tail (laidMet.tail hL)))) (laidMet.tail (laidMet.tail (laidMet.tail (laidMet.tail (laidMet.tail hL))))) hsh;exact Es c0 x0 n1 m W hr0 (GU w1) hT
theorem Et:joinedFacts prog 8 Tryz.f8 Rows.aliasesSameSpec Rows.aliasesSameRow=true:=by
 unfold joinedFacts;exact ZB (by as_aux_lemma=>kernel_rfl) Tryz.laidOut Tryz.mapsRowed (by as_aux_lemma=>kernel_rfl) (by as_aux_lemma=>kernel_rfl) (by as_aux_lemma=>kernel_rfl) (by as_aux_lemma=>kernel_rfl) (by as_aux_lemma=>kernel_rfl) (by as_aux_lemma=>kernel_rfl) (by as_aux_lemma=>kernel_rfl) (by as_aux_lemma=>kernel_rfl) (by as_aux_lemma=>kernel_rfl) (by as_aux_lemma=>kernel_rfl) (by as_aux_lemma=>kernel_rfl) (by as_aux_lemma=>kernel_rfl) (by as_aux_lemma=>kernel_rfl) (by as_aux_lemma=>kernel_rfl) (by as_aux_lemma=>kernel_rfl) (by as_aux_lemma=>kernel_rfl) (by as_aux_lemma=>kernel_rfl) (by as_aux_lemma=>kernel_rfl) (by as_aux_lemma=>kernel_rfl) (by as_aux_lemma=>kernel_rfl) (by as_aux_lemma=>kernel_rfl) Tryz.stopsHeard Tryz.mayEnter (by rw[Tryz.liftsFinal];kernel_rfl) (by rw[Tryz.make];kernel_rfl) (by as_aux_lemma=>kernel_rfl) (by as_aux_lemma=>kernel_rfl) (by as_aux_lemma=>kernel_rfl) (by as_aux_lemma=>kernel_rfl)
set_option maxRecDepth 1000000 in
theorem Jc(os:Os):laidMet prog Rows.aliasesSameRow.laid ((jo (World.holding prog os ⟨gX,#[],[]⟩)).forCall (fun _ _=>0) ⟨#[],#[.agg #[.int .i64 0,.int .i64 0,.int .i64 0,.int .i64 0],.int .i64 0],[]⟩).memory:=
 laidMet_of_run' 8 (by kernel_rfl) (by kernel_rfl)
set_option maxRecDepth 1000000 in
theorem Ez(os:Os){H:Type}(enc:TypeId×Value→H):∃places,DataW.whole enc prog ((jo (World.holding prog os ⟨gX,#[],[]⟩)).forCall (fun _ _=>0) ⟨#[],#[.agg #[.int .i64 0,.int .i64 0,.int .i64 0,.int .i64 0],.int .i64 0],[]⟩).memory Tryz.f8.params.toList Rows.aliasesSameSpec.vars false #[Value.agg #[.int .i64 0,.int .i64 0,.int .i64 0,.int .i64 0],Value.int .i64 0].toList 8=some ([.agg [.lit (.int .i64 0),.lit (.int .i64 0),.lit (.int .i64 0),.lit (.int .i64 0)],.lit (.int .i64 0)],[],places):=
 ⟨[],by kernel_rfl⟩
set_option maxRecDepth 1000000 in
theorem Jd(os:Os):Input.okWideB prog ((jo (World.holding prog os ⟨gX,#[],[]⟩)).forCall (fun _ _=>0) ⟨#[],#[.agg #[.int .i64 0,.int .i64 0,.int .i64 0,.int .i64 0],.int .i64 0],[]⟩) 8 ⟨#[],#[.agg #[.int .i64 0,.int .i64 0,.int .i64 0,.int .i64 0],.int .i64 0],[]⟩=true:=by kernel_rfl
set_option maxRecDepth 1000000 in
theorem Gq(os:Os):((jo (World.holding prog os ⟨gX,#[],[]⟩)).forCall (fun _ _=>0) ⟨#[],#[.agg #[.int .i64 0,.int .i64 0,.int .i64 0,.int .i64 0],.int .i64 0],[]⟩).variablesB prog=true:=by kernel_rfl
set_option maxRecDepth 1000000 in
theorem Gn(os:Os):(((jo (World.holding prog os ⟨gX,#[],[]⟩)).forCall (fun _ _=>0) ⟨#[],#[.agg #[.int .i64 0,.int .i64 0,.int .i64 0,.int .i64 0],.int .i64 0],[]⟩).heap.toList.drop prog.globals.size).take ((begin prog (fun _ _=>0) default).world.heap.size-prog.globals.size)=(begin prog (fun _ _=>0) default).world.heap.toList.drop prog.globals.size:=by kernel_rfl
set_option maxRecDepth 1000000 in
theorem CU(os:Os)(started:os.Started)(H:Type)(enc:TypeId×Value→H)(F:Stop.Interp):
  ReturnsInHanded {} Tryz.checked os 8 .any ((OpenSpec.ofChange Rows.aliasesSameSpec).preRow enc prog Tryz.f8 Rows.aliasesSameRow.domain false Rows.aliasesSameRow.laid) (((OpenSpec.ofChange Rows.aliasesSameSpec).at F).post enc prog Tryz.f8 false true false false):=by
 obtain⟨places,hx⟩:=Ez os enc;refine Jy (C:=Tryz.checked) (s:=Rows.aliasesSameSpec) started Tryz.own Tryz.laidOut (by as_aux_lemma=>kernel_rfl) func8
  (witness_row_at (enc:=enc) (C:=Tryz.checked) false (jo (World.holding prog os ⟨gX,#[],[]⟩)) #[.agg #[.int .i64 0,.int .i64 0,.int .i64 0,.int .i64 0],.int .i64 0] rfl (Gq os) (Gn os) (Jd os)
   (OpenSpec.preRow_of_cond 8 hx (by kernel_rfl) (fun k hk=>by cases hk) (by kernel_rfl) (Jc os)))
  (by as_aux_lemma=>kernel_rfl) rfl underlying4 rfl
  (fun ds hd=>match ds,hd with|[d0,d1],_=>⟨rfl,rfl,rfl⟩)
  CV
set_option maxRecDepth 1000000 in
theorem Gp:Rows.AliasesSameSaid:=
 OpenClaim.holds_of_cond 8 Tryz.f8 rfl rfl rfl rfl rfl rfl rfl ⟨rfl,rfl,rfl,rfl,rfl⟩ rfl rfl rfl rfl rfl (by as_aux_lemma=>kernel_rfl) func8 Et
  (of_decide_eq_true (by as_aux_lemma=>kernel_rfl)) (by unfold Func.isWrapper;first|(rw[if_pos (by decide +kernel)];kernel_rfl)|(rw[if_neg (by decide +kernel)];exact⟨rfl,rfl⟩))
  (fun os started H enc _ F=>by rw[OpenClaim.pre_eq_preRow];exact CU os started H enc F)
theorem Ew:prog.funcNamed Rows.aliasesSameRow.func=some 8:=by kernel_rfl
theorem Gm:(Tryz.f8.params.toList.all fun t=> !prog.wantsStandIn t)=true:=by kernel_rfl
theorem Eu:Rows.aliasesSameCard.stood.looks=prog.looks []:=by kernel_rfl
theorem Ey(f:FuncId)(fn:Go.Func)(hf:Tryz.pinned.checked.prog.funcNamed Rows.aliasesSameRow.func=some f)(hfn:Tryz.pinned.checked.prog.funcs[f]? =some fn):
  Rows.aliasesSameCard.stood.looks=Tryz.pinned.checked.prog.looks []∧∀(j:Nat) t,fn.params[j]? =some t→Tryz.pinned.checked.prog.wantsStandIn t=false:=by
 obtain rfl:f=8:=Option.some.inj (hf.symm.trans Ew);obtain rfl:fn=Tryz.f8:=Option.some.inj (hfn.symm.trans func8);refine⟨Eu,fun j t ht=>?_⟩;have h:=List.all_eq_true.1 Gm t (by simpa using Array.mem_of_getElem? ht);have h2:prog.wantsStandIn t=false:=by simpa using h
 exact h2
theorem aliasesSame_holds:Rows.AliasesSameCardSaid:=
 Claim7.holds_tied_plain_at .later [] _ _ _ _ Gp (fun _ h=>by cases h) (by kernel_rfl) (fun _ h=>by cases h) aliasesSame_row_tie rfl ⟨rfl,rfl⟩ (by kernel_rfl) rfl Ey (by kernel_rfl)
#print axioms aliasesSame_holds
end Go.Proofs.YtjaladhdnbhliaaGreatDoor
