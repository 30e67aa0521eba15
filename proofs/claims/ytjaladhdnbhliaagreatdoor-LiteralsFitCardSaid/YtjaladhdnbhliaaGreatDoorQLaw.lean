/- Parts. -/
import Derived.ProofKit
import Derived.SizedLaws
import Derived.Shelf.SlSortCmp.WholeK
import Derived.Shelf.Spec.SlicesGrow
import Derived.Shelf.SlSorted.IsSorted
import Derived.Test.YtjaladhdnbhliaaGreatDoorProg
import Derived.Deep.DeepHandedRow
namespace Go.Proofs.YtjaladhdnbhliaaGreatDoor
open Go.Proofs.Tryz
open Go.ChangeShapes Go.WideShapes Go.ChangeAt Go.RowKit
theorem CB{H:Type}{enc:TypeId×Value→H}{P:Program}(hl:laidOutB P=true){W W':World}(hb:Below W.heap.size W W'):
  ∀ {ts:List TypeId} {vs:List Value} {ds:List (DataW H)} {ps:List MemPlace},(∀t∈ts,P.readableRec t=true∧t<P.types.size)→(∀x∈ps,x.block<W.heap.size)→
   DataW.TrodAll enc P W 0 (fun _=>true) true ts vs ds ps→DataW.TrodAll enc P W' 0 (fun b=>decide (b<W.heap.size)) true ts vs ds ps
 |[],[],[],_,_,_,h=>h
 |t::ts,v::vs,d::ds,ps,hr,hlt,h=>by
  obtain⟨p,q,h1,h2,rfl⟩:=h;exact⟨p,q,Below.trod hl (hr t (by simp)).1 (hr t (by simp)).2 h1 hb (fun x hx=>hlt x (by simp[hx])),
   CB hl hb (fun t' ht'=>hr t' (by simp[ht'])) (fun x hx=>hlt x (by simp[hx])) h2,rfl⟩
 |[],[],_::_,_,_,_,h=>h.elim
 |[],_::_,_,_,_,_,h=>h.elim
 |_::_,[],_,_,_,_,h=>h.elim
 |_::_,_::_,[],_,_,_,h=>h.elim
theorem ad4{H:Type}{enc:TypeId×Value→H}{P:Program}{f:Func}{s:ChangeSpec}{apart fresh handsOn:Bool}{W W':World}{args:Array Value}{ds gs:List (DataW H)}{before:List MemPlace}{tb:TypeId}
  (hl:laidOutB P=true) (hr:∀t∈f.params.toList,P.readableRec t=true∧t<P.types.size) (hres:f.resultTypes= #[tb]) (htb:P.underlying tb=some .bool) (hsv:s.vars= [])
  (hW:DataW.Whole enc P f.params.toList s.vars apart W args.toList ds gs before)
  (e1:(s.fn H (ds++gs)).results= [.lit (.bool true)]) (e2:(s.fn H (ds++gs)).args=ds) (e3:(s.fn H (ds++gs)).vars= [])
  (hb:Below W.heap.size W W'):s.post enc P f apart fresh handsOn false W args (.bool true) W':=by
 have hW':=hW;have hlt:=fun x hx=>hW.lt x hx
 obtain⟨p,q,hA,hV,rfl,_,_⟩:=hW;rw[hsv]at hV;obtain⟨rfl,rfl⟩:=trodVars_none hV;simp only[List.append_nil]at hlt hW';refine⟨ds,[],p,[],p,[],hW',?_,?_,?_,hb.frame _,fun h=>by cases h⟩
 ·rw[e1,hres];exact trodAll_mk1 (shut_bool htb true)
 ·rw[e2];exact CB hl hb hr (fun x hx=>by simpa using hlt x hx) hA
 ·rw[e3,hsv]
  rfl
theorem trodAll_length{H:Type}{enc:TypeId×Value→H}{P:Program}{W:World}{b:Nat}{sp:Nat→Bool}{hd:Bool}:
  ∀ {ts:List TypeId} {vs:List Value} {ds:List (DataW H)} {ps:List MemPlace},DataW.TrodAll enc P W b sp hd ts vs ds ps→ds.length=ts.length
 |[],[],[],_,_=>rfl
 |_::_,_::_,_::_,_,h=>by
  obtain⟨_,_,_,h2,_⟩:=h;simp[trodAll_length h2]
 |[],[],_::_,_,h=>h.elim
 |[],_::_,_,_,h=>h.elim
 |_::_,[],_,_,h=>h.elim
 |_::_,_::_,[],_,h=>h.elim
theorem Cm{s:ByteArray}(h:s.data.toList.length≤reachBytes):s.size≤140737488355328:=by
 have e:s.data.toList.length=s.size:=rfl;unfold reachBytes at h;omega
end Go.Proofs.YtjaladhdnbhliaaGreatDoor
namespace Go.Proofs
open Go.Shelf
def Tryz.Ol:Go.Shelf.Ren:=⟨fun|6=>93|15=>83|14=>155|28=>137|29=>138|20=>221|21=>222|22=>223|23=>224|24=>225|25=>226|26=>227|27=>228|46=>254|47=>199|48=>200|49=>255|50=>256|57=>271|n=>n,fun|22=>39|24=>100|25=>157|3=>3|39=>146|0=>0|53=>197|55=>199|4=>4|46=>191|45=>190|50=>103|5=>5|9=>9|66=>248|70=>252|76=>279|77=>280|n=>n,fun|n=>n⟩
theorem Tryz.abQ:Go.Proofs.SlLaysF0.n6 prog Tryz.Ol:= {
 mixed:=by kernel_rfl
 f6:=⟨Tryz.f93.name,by decide,func93.trans (congrArg some (by kernel_rfl))⟩
 f14:=⟨Tryz.f155.name,by decide,func155.trans (congrArg some (by kernel_rfl))⟩
 f15:=func83.trans (congrArg some (by kernel_rfl))
 f20:=⟨Tryz.f221.name,by decide,func221.trans (congrArg some (by kernel_rfl))⟩
 f21:=⟨Tryz.f222.name,by decide,func222.trans (congrArg some (by kernel_rfl))⟩
 f22:=⟨Tryz.f223.name,by decide,func223.trans (congrArg some (by kernel_rfl))⟩
 f23:=⟨Tryz.f224.name,by decide,func224.trans (congrArg some (by kernel_rfl))⟩
 f24:=⟨Tryz.f225.name,by decide,func225.trans (congrArg some (by kernel_rfl))⟩
 f25:=⟨Tryz.f226.name,by decide,func226.trans (congrArg some (by kernel_rfl))⟩
 f26:=⟨Tryz.f227.name,by decide,func227.trans (congrArg some (by kernel_rfl))⟩
 f27:=⟨Tryz.f228.name,by decide,func228.trans (congrArg some (by kernel_rfl))⟩
 f28:=func137.trans (congrArg some (by kernel_rfl))
 f29:=func138.trans (congrArg some (by kernel_rfl))
 f46:=⟨Tryz.f254.name,by decide,func254.trans (congrArg some (by kernel_rfl))⟩
 f47:=func199.trans (congrArg some (by kernel_rfl))
 f48:=func200.trans (congrArg some (by kernel_rfl))
 f49:=⟨Tryz.f255.name,by decide,func255.trans (congrArg some (by kernel_rfl))⟩
 f50:=⟨Tryz.f256.name,by decide,func256.trans (congrArg some (by kernel_rfl))⟩
 f57:=⟨Tryz.f271.name,by decide,func271.trans (congrArg some (by kernel_rfl))⟩
 t0:=underlying0
 a0:=isAgg0
 z0:=sizeOf0
 v0:=zeroValue0
 t3:=underlying3
 a3:=isAgg3
 z3:=sizeOf3
 v3:=zeroValue3
 t4:=underlying4
 a4:=isAgg4
 z4:=sizeOf4
 v4:=zeroValue4
 t5:=underlying5
 a5:=isAgg5
 z5:=sizeOf5
 v5:=zeroValue5
 t9:=underlying9
 a9:=isAgg9
 z9:=sizeOf9
 v9:=zeroValue9
 t22:=underlying39
 a22:=isAgg39
 z22:=sizeOf39
 v22:=zeroValue39
 t25:=underlying157
 a25:=isAgg157
 z25:=sizeOf157
 v25:=zeroValue157
 t39:=underlying146
 a39:=isAgg146
 z39:=sizeOf146
 v39:=zeroValue146
 t45:=underlying190
 a45:=isAgg190
 z45:=sizeOf190
 v45:=zeroValue190
 t46:=underlying191
 a46:=isAgg191
 z46:=sizeOf191
 v46:=zeroValue191
 t50:=underlying103
 a50:=isAgg103
 z50:=sizeOf103
 v50:=zeroValue103
 t53:=underlying197
 a53:=isAgg197
 z53:=sizeOf197
 v53:=zeroValue197
 t55:=underlying199
 a55:=isAgg199
 z55:=sizeOf199
 v55:=zeroValue199
 t66:=underlying248
 a66:=isAgg248
 z66:=sizeOf248
 v66:=zeroValue248
 t70:=underlying252
 a70:=isAgg252
 z70:=sizeOf252
 v70:=zeroValue252
 t76:=underlying279
 a76:=isAgg279
 z76:=sizeOf279
 v76:=zeroValue279
 t77:=underlying280
 a77:=isAgg280
 z77:=sizeOf280
 v77:=zeroValue280 }
def Tryz.VJ:Go.Shelf.Ren:=⟨fun|6=>88|15=>83|14=>152|28=>137|29=>138|20=>212|21=>213|22=>214|23=>215|24=>216|25=>217|26=>218|27=>219|46=>251|47=>199|48=>200|49=>252|50=>253|57=>270|n=>n,fun|22=>40|24=>62|25=>151|3=>3|39=>146|0=>0|53=>197|55=>199|4=>4|46=>191|45=>190|50=>103|5=>5|9=>9|66=>248|70=>252|76=>279|77=>280|n=>n,fun|n=>n⟩
theorem Tryz.afU:Go.Proofs.SlLaysF0.n6 prog Tryz.VJ:= {
 mixed:=by kernel_rfl
 f6:=⟨Tryz.f88.name,by decide,func88.trans (congrArg some (by kernel_rfl))⟩
 f14:=⟨Tryz.f152.name,by decide,func152.trans (congrArg some (by kernel_rfl))⟩
 f15:=func83.trans (congrArg some (by kernel_rfl))
 f20:=⟨Tryz.f212.name,by decide,func212.trans (congrArg some (by kernel_rfl))⟩
 f21:=⟨Tryz.f213.name,by decide,func213.trans (congrArg some (by kernel_rfl))⟩
 f22:=⟨Tryz.f214.name,by decide,func214.trans (congrArg some (by kernel_rfl))⟩
 f23:=⟨Tryz.f215.name,by decide,func215.trans (congrArg some (by kernel_rfl))⟩
 f24:=⟨Tryz.f216.name,by decide,func216.trans (congrArg some (by kernel_rfl))⟩
 f25:=⟨Tryz.f217.name,by decide,func217.trans (congrArg some (by kernel_rfl))⟩
 f26:=⟨Tryz.f218.name,by decide,func218.trans (congrArg some (by kernel_rfl))⟩
 f27:=⟨Tryz.f219.name,by decide,func219.trans (congrArg some (by kernel_rfl))⟩
 f28:=func137.trans (congrArg some (by kernel_rfl))
 f29:=func138.trans (congrArg some (by kernel_rfl))
 f46:=⟨Tryz.f251.name,by decide,func251.trans (congrArg some (by kernel_rfl))⟩
 f47:=func199.trans (congrArg some (by kernel_rfl))
 f48:=func200.trans (congrArg some (by kernel_rfl))
 f49:=⟨Tryz.f252.name,by decide,func252.trans (congrArg some (by kernel_rfl))⟩
 f50:=⟨Tryz.f253.name,by decide,func253.trans (congrArg some (by kernel_rfl))⟩
 f57:=⟨Tryz.f270.name,by decide,func270.trans (congrArg some (by kernel_rfl))⟩
 t0:=underlying0
 a0:=isAgg0
 z0:=sizeOf0
 v0:=zeroValue0
 t3:=underlying3
 a3:=isAgg3
 z3:=sizeOf3
 v3:=zeroValue3
 t4:=underlying4
 a4:=isAgg4
 z4:=sizeOf4
 v4:=zeroValue4
 t5:=underlying5
 a5:=isAgg5
 z5:=sizeOf5
 v5:=zeroValue5
 t9:=underlying9
 a9:=isAgg9
 z9:=sizeOf9
 v9:=zeroValue9
 t22:=underlying40
 a22:=isAgg40
 z22:=sizeOf40
 v22:=zeroValue40
 t25:=underlying151
 a25:=isAgg151
 z25:=sizeOf151
 v25:=zeroValue151
 t39:=underlying146
 a39:=isAgg146
 z39:=sizeOf146
 v39:=zeroValue146
 t45:=underlying190
 a45:=isAgg190
 z45:=sizeOf190
 v45:=zeroValue190
 t46:=underlying191
 a46:=isAgg191
 z46:=sizeOf191
 v46:=zeroValue191
 t50:=underlying103
 a50:=isAgg103
 z50:=sizeOf103
 v50:=zeroValue103
 t53:=underlying197
 a53:=isAgg197
 z53:=sizeOf197
 v53:=zeroValue197
 t55:=underlying199
 a55:=isAgg199
 z55:=sizeOf199
 v55:=zeroValue199
 t66:=underlying248
 a66:=isAgg248
 z66:=sizeOf248
 v66:=zeroValue248
 t70:=underlying252
 a70:=isAgg252
 z70:=sizeOf252
 v70:=zeroValue252
 t76:=underlying279
 a76:=isAgg279
 z76:=sizeOf279
 v76:=zeroValue279
 t77:=underlying280
 a77:=isAgg280
 z77:=sizeOf280
 v77:=zeroValue280 }
end Go.Proofs
namespace Go.Proofs.YtjaladhdnbhliaaGreatDoor
open Go.ChangeShapes Go.WideShapes Go.ChangeAt Go.RowKit
theorem Jy{H:Type}{enc:TypeId×Value→H}{C:Checked}{os:Os}(started:os.Started){F:Stop.Interp}{f:FuncId}{fn:Func}{s:ChangeSpec}{conds:List PathCond}{apart fresh handsOn:Bool}{laid:List (String×DataW Unit)}{tb:TypeId}
  (own:ownKnob C.prog.godebug=none) (hl:laidOutB C.prog=true) (noInit:C.prog.inits.idxOf? f=none) (hfn:C.prog.funcs[f]? =some fn)
  (witness:∃(w:World) (tape:Tape) (i:Input),w.os=os∧(w.forCall tape i).Shaped C.prog∧i.vars= []∧Input.okWide C.prog (w.forCall tape i) .any w.heap.size f i∧
   (OpenSpec.ofChange s).preRow enc C.prog fn conds apart laid (w.forCall tape i).memory i.args∧({} :Assume).holds C.prog (lone (Frame.enter C.prog f i.args .normal) [] (w.forCall tape i)))
  (hr:(fn.params.toList.all fun t=>C.prog.readableRec t&&decide (t<C.prog.types.size))=true) (hres:fn.resultTypes= #[tb]) (htb:C.prog.underlying tb=some .bool) (hsv:s.vars= [])
  (hspec:∀ds:List (DataW H),ds.length=fn.params.toList.length→(s.fn H (ds++ [])).results= [.lit (.bool true)]∧(s.fn H (ds++ [])).args=ds∧(s.fn H (ds++ [])).vars= [])
  (calls:∀(W:World) (base:Nat) (args:Array Value) (ds:List (DataW H)) (ps:List MemPlace),
   (∀(j:Nat) t v,fn.params[j]? =some t→args[j]? =some v→Value.okWide C.prog W .any base t v)→
   DataW.TrodAll enc C.prog W 0 (fun _=>true) true fn.params.toList args.toList ds ps→(∀x∈ps,x.block<W.heap.size)→
   (DataW.weightsEach C.prog fn.params.toList ds).all (· ≤reachBytes)=true→laidMetH C.prog laid W→W.ShapedOpen C.prog→
   Calls C.prog f args W fun e W'=>e=.returned (.bool true)∧Below W.heap.size W W'):
  ReturnsInHanded {} C os f .any ((OpenSpec.ofChange s).preRow enc C.prog fn conds apart laid) (((OpenSpec.ofChange s).at F).post enc C.prog fn apart fresh handsOn false):=by
 refine returnsInHanded_of_row own started noInit hfn witness ?_;intro W base args ds gs before hval hW0 _ _ hsz hL hsh _;have hW:DataW.Whole enc C.prog fn.params.toList s.vars apart W args.toList ds gs before:=hW0;have hW':=hW;have hlt:=fun x hx=>hW.lt x hx
 obtain⟨p,q,hA,hV,rfl,_,_⟩:=hW;rw[hsv]at hV;obtain⟨rfl,rfl⟩:=trodVars_none hV;have hvt:(OpenSpec.ofChange s).bare.plain.varTypes C.prog= []:=by
  show s.plain.varTypes C.prog= []
  simp[ChangeSpec.plain,DataSpec.varTypes,hsv]
 rw[hvt,List.append_nil,List.append_nil]at hsz;have hd:=trodAll_length hA;obtain⟨e1,e2,e3⟩:=hspec ds hd;refine(calls W base args ds p hval hA (fun x hx=>hlt x (by simp[hx])) hsz hL hsh).mono fun e W' ⟨he,hb⟩=>?_
 subst he;exact⟨_,rfl,ad4 hl (fun t ht=>by simpa using List.all_eq_true.1 hr t ht) hres htb hsv hW' e1 e2 e3 hb⟩
end Go.Proofs.YtjaladhdnbhliaaGreatDoor
