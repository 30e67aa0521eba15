/- A number is a number, a text a text; what takes another kind is told: at all numbers. The row lists tables of Go's library, tied to the program's text. -/
import Derived.Test.YtjaladhdnbhliaaGreatDoorQLiteralsFitW
import Derived.Test.YtjaladhdnbhliaaGreatDoorCards
import Derived.Test.YtjaladhdnbhliaaGreatDoorTie
set_option maxHeartbeats 8000000
namespace Go.Proofs.YtjaladhdnbhliaaGreatDoor
open Go.Proofs.Tryz
open Go.ChangeShapes Go.WideShapes Go.ChangeAt Go.RowKit
open Go.ChangeMaps (open_string)
set_option maxRecDepth 100000 in
theorem Dy{H:Type}{enc:TypeId×Value→H}(W:World)(base:Nat)(args:Array Value)(ds:List (DataW H))(ps:List MemPlace)
  (hval:∀(j:Nat) t v,Tryz.f6.params[j]? =some t→args[j]? =some v→Value.okWide Tryz.checked.prog W .any base t v)
  (hA:DataW.TrodAll enc Tryz.checked.prog W 0 (fun _=>true) true Tryz.f6.params.toList args.toList ds ps) (_hlt:∀x∈ps,x.block<W.heap.size)
  (hsz:(DataW.weightsEach Tryz.checked.prog Tryz.f6.params.toList ds).all (· ≤reachBytes)=true) (_hL:laidMetH Tryz.checked.prog Rows.literalsFitRow.laid W) (hsh:W.ShapedOpen Tryz.checked.prog):
  Calls Tryz.checked.prog 6 args W fun e W'=>e=.returned (.bool true)∧Below W.heap.size W W':=by
 rw[params6]at hA hval hsz;obtain⟨v0,v1,d0,d1,p0,p1,rfl,rfl,rfl,h0,h1⟩:=trodAll_two hA;obtain⟨n0,rfl,rfl,rfl,w0⟩:=open_int underlying3 (hval 0 _ v0 rfl rfl) h0;obtain⟨b1,rfl,rfl,rfl⟩:=open_bool underlying4 (hval 1 _ v1 rfl rfl) h1;have hL:laidMet prog Rows.literalsFitRow.laid W:=_hL;obtain⟨m,hT⟩:=JE (laidMet.tail (laidMet.tail hL)) rfl (laidMet.tail (laidMet.tail (laidMet.tail (laidMet.tail hL)))) (laidMet.tail (laidMet.tail (laidMet.tail (laidMet.tail (laidMet.tail hL))))) hsh;exact Fa n0 b1 m W (GU w0) hT
theorem Fb:joinedFacts prog 6 Tryz.f6 Rows.literalsFitSpec Rows.literalsFitRow=true:=by
 unfold joinedFacts;exact ZB (by as_aux_lemma=>kernel_rfl) Tryz.laidOut Tryz.mapsRowed (by as_aux_lemma=>kernel_rfl) (by as_aux_lemma=>kernel_rfl) (by as_aux_lemma=>kernel_rfl) (by as_aux_lemma=>kernel_rfl) (by as_aux_lemma=>kernel_rfl) (by as_aux_lemma=>kernel_rfl) (by as_aux_lemma=>kernel_rfl) (by as_aux_lemma=>kernel_rfl) (by as_aux_lemma=>kernel_rfl) (by as_aux_lemma=>kernel_rfl) (by as_aux_lemma=>kernel_rfl) (by as_aux_lemma=>kernel_rfl) (by as_aux_lemma=>kernel_rfl) (by as_aux_lemma=>kernel_rfl) (by as_aux_lemma=>kernel_rfl) (by as_aux_lemma=>kernel_rfl) (by as_aux_lemma=>kernel_rfl) (by as_aux_lemma=>kernel_rfl) (by as_aux_lemma=>kernel_rfl) (by as_aux_lemma=>kernel_rfl) (by as_aux_lemma=>kernel_rfl) Tryz.stopsHeard Tryz.mayEnter (by rw[Tryz.liftsFinal];kernel_rfl) (by rw[Tryz.make];kernel_rfl) (by as_aux_lemma=>kernel_rfl) (by as_aux_lemma=>kernel_rfl) (by as_aux_lemma=>kernel_rfl) (by as_aux_lemma=>kernel_rfl)
set_option maxRecDepth 1000000 in
theorem Jo(os:Os):laidMet prog Rows.literalsFitRow.laid ((jo (World.holding prog os ⟨gX,#[],[]⟩)).forCall (fun _ _=>0) ⟨#[],#[.int .i64 0,.bool false],[]⟩).memory:=
 laidMet_of_run' 8 (by kernel_rfl) (by kernel_rfl)
set_option maxRecDepth 1000000 in
theorem Fj(os:Os){H:Type}(enc:TypeId×Value→H):∃places,DataW.whole enc prog ((jo (World.holding prog os ⟨gX,#[],[]⟩)).forCall (fun _ _=>0) ⟨#[],#[.int .i64 0,.bool false],[]⟩).memory Tryz.f6.params.toList Rows.literalsFitSpec.vars false #[Value.int .i64 0,Value.bool false].toList 8=some ([.lit (.int .i64 0),.lit (.bool false)],[],places):=
 ⟨[],by kernel_rfl⟩
set_option maxRecDepth 1000000 in
theorem Jp(os:Os):Input.okWideB prog ((jo (World.holding prog os ⟨gX,#[],[]⟩)).forCall (fun _ _=>0) ⟨#[],#[.int .i64 0,.bool false],[]⟩) 6 ⟨#[],#[.int .i64 0,.bool false],[]⟩=true:=by kernel_rfl
set_option maxRecDepth 1000000 in
theorem G7(os:Os):((jo (World.holding prog os ⟨gX,#[],[]⟩)).forCall (fun _ _=>0) ⟨#[],#[.int .i64 0,.bool false],[]⟩).variablesB prog=true:=by kernel_rfl
set_option maxRecDepth 1000000 in
theorem G5(os:Os):(((jo (World.holding prog os ⟨gX,#[],[]⟩)).forCall (fun _ _=>0) ⟨#[],#[.int .i64 0,.bool false],[]⟩).heap.toList.drop prog.globals.size).take ((begin prog (fun _ _=>0) default).world.heap.size-prog.globals.size)=(begin prog (fun _ _=>0) default).world.heap.toList.drop prog.globals.size:=by kernel_rfl
set_option maxRecDepth 1000000 in
theorem Dx(os:Os)(started:os.Started)(H:Type)(enc:TypeId×Value→H)(F:Stop.Interp):
  ReturnsInHanded {} Tryz.checked os 6 .any ((OpenSpec.ofChange Rows.literalsFitSpec).preRow enc prog Tryz.f6 Rows.literalsFitRow.domain false Rows.literalsFitRow.laid) (((OpenSpec.ofChange Rows.literalsFitSpec).at F).post enc prog Tryz.f6 false true false false):=by
 obtain⟨places,hx⟩:=Fj os enc;refine Jy (C:=Tryz.checked) (s:=Rows.literalsFitSpec) started Tryz.own Tryz.laidOut (by as_aux_lemma=>kernel_rfl) func6
  (witness_row_at (enc:=enc) (C:=Tryz.checked) false (jo (World.holding prog os ⟨gX,#[],[]⟩)) #[.int .i64 0,.bool false] rfl (G7 os) (G5 os) (Jp os)
   (OpenSpec.preRow_of_cond 8 hx (by kernel_rfl) (fun k hk=>by cases hk) (by kernel_rfl) (Jo os)))
  (by as_aux_lemma=>kernel_rfl) rfl underlying4 rfl
  (fun ds hd=>match ds,hd with|[d0,d1],_=>⟨rfl,rfl,rfl⟩)
  Dy
set_option maxRecDepth 1000000 in
theorem G6:Rows.LiteralsFitSaid:=
 OpenClaim.holds_of_cond 6 Tryz.f6 rfl rfl rfl rfl rfl rfl rfl ⟨rfl,rfl,rfl,rfl,rfl⟩ rfl rfl rfl rfl rfl (by as_aux_lemma=>kernel_rfl) func6 Fb
  (of_decide_eq_true (by as_aux_lemma=>kernel_rfl)) (by unfold Func.isWrapper;first|(rw[if_pos (by decide +kernel)];kernel_rfl)|(rw[if_neg (by decide +kernel)];exact⟨rfl,rfl⟩))
  (fun os started H enc _ F=>by rw[OpenClaim.pre_eq_preRow];exact Dx os started H enc F)
theorem Fg:prog.funcNamed Rows.literalsFitRow.func=some 6:=by kernel_rfl
theorem GZ:(Tryz.f6.params.toList.all fun t=> !prog.wantsStandIn t)=true:=by kernel_rfl
theorem Fe:Rows.literalsFitCard.stood.looks=prog.looks []:=by kernel_rfl
theorem Fh(f:FuncId)(fn:Go.Func)(hf:Tryz.pinned.checked.prog.funcNamed Rows.literalsFitRow.func=some f)(hfn:Tryz.pinned.checked.prog.funcs[f]? =some fn):
  Rows.literalsFitCard.stood.looks=Tryz.pinned.checked.prog.looks []∧∀(j:Nat) t,fn.params[j]? =some t→Tryz.pinned.checked.prog.wantsStandIn t=false:=by
 obtain rfl:f=6:=Option.some.inj (hf.symm.trans Fg);obtain rfl:fn=Tryz.f6:=Option.some.inj (hfn.symm.trans func6);refine⟨Fe,fun j t ht=>?_⟩;have h:=List.all_eq_true.1 GZ t (by simpa using Array.mem_of_getElem? ht);have h2:prog.wantsStandIn t=false:=by simpa using h
 exact h2
theorem literalsFit_holds:Rows.LiteralsFitCardSaid:=
 Claim7.holds_tied_plain_at .later [] _ _ _ _ G6 (fun _ h=>by cases h) (by kernel_rfl) (fun _ h=>by cases h) literalsFit_row_tie rfl ⟨rfl,rfl⟩ (by kernel_rfl) rfl Fh (by kernel_rfl)
#print axioms literalsFit_holds
end Go.Proofs.YtjaladhdnbhliaaGreatDoor
