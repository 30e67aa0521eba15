/- Parts. -/
import Derived.Test.YtjaladhdnbhliaaGreatDoorQLaw
import Derived.RangeFuncNested
import Derived.RangeFuncBound
import Derived.Test.YtjaladhdnbhliaaGreatDoorRows
namespace Go.Proofs.YtjaladhdnbhliaaGreatDoor
open Go.Proofs.Tryz
open Go.RowKit
section
variable {P:Program} {F:Fence} {n:Nat}
def YZ(P:Program)(l:Nat)(R:Ending→World→Prop):Exit→Act→World→Prop
 | .normal,_,w=>∃v w',(Instr.endRound l none).run P w=.ok v w'∧R (.returned v) w'
 | .panic chain,a,w=>a.defers= []∧R (.panicked chain) w
 |_,_,_=>False
theorem FP{l:Nat}{f:FuncId}{fn:Func}{tmps:Array Value}{assign body:Code}{w:World}{R:Ending→World→Prop}(hfn:P.funcs[f]? =some fn)(hF:F.fn f)
  (h:assign.wpIn (F.inRound l) n P (Exit.then (fun a₁ w₁=>∃w₂,(Instr.beginRound l).run P w₁=.ok () w₂∧body.wpIn (F.inRound l) n P (YZ P l R) a₁ w₂) (fun _ _ _=>False))
   { tmps:=tmps,defers:= [] } w):
  RoundIn F n P l f tmps assign body w R:=by
 refine⟨hF,fun c cs hr=>?_⟩
 let b:Frame:= { (default:Frame)with fn:=f,kind:=.normal,roundOf:=some l }
 have hb0:Frame.round l f tmps assign body .normal=b.atR { tmps:=tmps,defers:= [] } [.code assign,.beginRound,.code body]:=by
  simp[Frame.round,Frame.atR,b]
 have hr':(F.inRound l).room ((c::cs).length+1+n):=hr;have hF':(F.inRound l).fn b.fn:=hF;obtain⟨e,a₁,w₁,hq,harr⟩:=h b [.beginRound,.code body] (c::cs) rfl hF' hr';rw[←hb0]at harr;cases e with
 |normal=>
  obtain⟨w₂,hbr,hbody⟩:=hq;have s1:StepsIn (Machine.fenced P (F.inRound l)) P (lone (b.atR a₁ [.beginRound,.code body]) (c::cs) w₁) (lone (b.atR a₁ [.code body]) (c::cs) w₂):=
   .one (fenced_calm (fr:=b.atR a₁ [.beginRound,.code body]) hF' hr' rfl) (stepR_beginRound rfl hbr)
  obtain⟨e₂,a₂,w₃,hq₂,harr₂⟩:=hbody b [] (c::cs) rfl hF' hr';cases e₂ with
  |normal=>
   obtain⟨v,w₄,hend,hR⟩:=hq₂;exact⟨.returned v,w₄,hR,(StepsIn.trans harr s1).trans (StepsIn.trans harr₂ (.one (fenced_calm (fr:=b.atR a₂ []) hF' hr' rfl) (stepR_round_end rfl rfl hend)))⟩
  |panic chain=>
   obtain⟨hd,hR⟩:=hq₂;obtain⟨todo,hs⟩:=harr₂;have hl:({ b.atR a₂ todo with mode:=.panicking chain } :Frame).leaving P w₃ (.panicked chain):=⟨rfl,hd,fn,hfn⟩;exact⟨.panicked chain,w₃,hR,(StepsIn.trans harr s1).trans (StepsIn.trans hs (.one (fenced_leaving hF' hr' hl) (step_leave_panicked hl)))⟩
  |ret=>exact hq₂.elim
  |exit id=>exact hq₂.elim
  |goto t=>exact hq₂.elim
  |outgrown=>exact hq₂.elim
 |exit id=>exact hq.elim
 |goto t=>exact hq.elim
 |ret=>exact hq.elim
 |panic chain=>exact hq.elim
 |outgrown=>exact hq.elim
def vw (P : Program) (fn : Func) (tmps : Array Value) (R : Ending → World → Prop) : List Deferred → FrameMode → World → Prop
  | [], u, w => Leaves P fn tmps R [] u w
  | d :: ds, u, w => u ≠ .run ∧
      ((∃ r w', d.target = .collected r ∧ (Instr.takeDeferred r).run P w = .ok [] w' ∧ vw P fn tmps R ds u w') ∨
       (∃ fv cap f args, d.target = .fn fv cap ∧ (invoke d.target d.args).run P w = .ok (.enter f args) w ∧
        CallsD P f args u w fun
          | .returned _, u', w' => vw P fn tmps R ds (settle u') w'
          | .panicked chain, u', w' => vw P fn tmps R ds (raised u' chain) w'
          | .outgrown, _, w' => R .outgrown w'))
theorem wz{fn:Func}{tmps:Array Value}{R:Ending→World→Prop}:∀(ds:List Deferred) (u:FrameMode) (w:World) (fr:Frame)
  (cs:List Frame),fr.mode=u→fr.defers=ds→fr.tmps=tmps→P.funcs[fr.fn]? =some fn→fr.kind=.normal→vw P fn tmps R ds u w→
  ∃e w' fr',R e w'∧Comes P (lone fr cs w) (lone fr' cs w') e∧fr'.fn=fr.fn∧fr'.leaving P w' e:=by
 intro ds
 induction ds with
 |nil=>exact fun u w fr cs hu hd ht hf hk h=>leaves_steps [] u w fr cs hu hd ht hf hk h
 |cons d ds ih=>
  intro u w fr cs hu hd ht hf hk h;obtain⟨hrun,h⟩:=h;rcases h with ⟨r,w',htar,htake,hrest⟩|⟨fv,cap,f,args,htar,hinv,hcall⟩
  ·have h1:=step_collected (cs:=cs) (hu▸hrun) hd htar htake;obtain⟨e',w'',fr',hR',hs',hfn',hl'⟩:=ih u w' { fr with defers:= []++ds } cs hu rfl ht hf hk hrest;exact⟨e',w'',fr',hR',Comes.of_steps (.one h1) hs',hfn',hl'⟩
  ·have h1:=step_defer (cs:=cs) (hu▸hrun) hd htar hinv;obtain⟨e,u',w',frX,hR,hsteps,hkX,hgo⟩:=hcall { fr with defers:=ds } cs hu;cases e with
   |returned v=>
    have h2:=step_going_returned (c:= { { fr with defers:=ds } with mode:=u' }) (cs:=cs) hkX hgo;obtain⟨e',w'',fr',hR',hs',hfn',hl'⟩:=ih (settle u') w' { { { fr with defers:=ds } with mode:=u' } with mode:=settle u' } cs rfl rfl ht hf hk hR;exact⟨e',w'',fr',hR',Comes.of_steps (.head h1 (Steps.trans hsteps (.one h2))) hs',hfn',hl'⟩
   |panicked chain=>
    have h2:=step_going_panicked (c:= { { fr with defers:=ds } with mode:=u' }) (cs:=cs) hgo;obtain⟨e',w'',fr',hR',hs',hfn',hl'⟩:=ih (raised u' chain) w' { { { fr with defers:=ds } with mode:=u' } with mode:=raised u' chain } cs rfl rfl ht hf hk hR;exact⟨e',w'',fr',hR',Comes.of_steps (.head h1 (Steps.trans hsteps (.one h2))) hs',hfn',hl'⟩
   |outgrown=>exact⟨.outgrown,w',fr,hR,Outgrown.of_steps (.one h1) hsteps,rfl,trivial⟩
def aaP(P:Program)(fn:Func)(R:Ending→World→Prop):Exit→Act→World→Prop
 | .normal,a,w| .ret,a,w=>vw P fn a.tmps R a.defers .returning w
 | .panic chain,a,w=>vw P fn a.tmps R a.defers (.panicking chain) w
 |_,_,_=>False
def Xq(f:FuncId)(P:Program)(c:Code)(Q:Exit→Act→World→Prop)(a:Act)(w:World):Prop:=
 ∀(b:Frame) (k:List Item) (cs:List Frame),b.roundOf=none→b.fn=f→∃e a' w',Q e a' w'∧ArrivesIn (Machine.fenced P Fence.wide) P (lone (b.atR a (.code c::k)) cs w) b k cs e a' w'
theorem yQ{f:FuncId}{c:Code}{Q:Exit→Act→World→Prop}{a:Act}{w:World}(h:c.wp P Q a w):Xq f P c Q a w:=fun b k cs hro _=>(wpIn_wide (n:=0)).2 h b k cs hro trivial (room_wide _)
theorem FY{f:FuncId}{x y:Code}{Q:Exit→Act→World→Prop}{a:Act}{w:World}(h:Xq f P x (Exit.then (fun a w=>Xq f P y Q a w) Q) a w):Xq f P (Code.seq x y) Q a w:=by
 intro b k cs hro hb;have h0:(lone (b.atR a (.code (.seq x y)::k)) cs w).fenced P Fence.wide:=fenced_wide _ _;obtain⟨e,a₁,w₁,hq,harr⟩:=h b (.code y::k) cs hro hb;cases e with
 |normal=>
  obtain⟨e₂,a₂,w₂,hq₂,harr₂⟩:=hq b k cs hro hb;exact⟨e₂,a₂,w₂,hq₂,.of_steps (.head h0 stepR_seq harr) harr₂⟩
 |exit id=>exact⟨_,a₁,w₁,hq,.of_steps (.one h0 stepR_seq) (.pass (x:=.code y) rfl (fun _ _=>.inl (by simp)) harr)⟩
 |goto l=>exact⟨_,a₁,w₁,hq,.of_steps (.one h0 stepR_seq) (.pass (x:=.code y) rfl (fun _ _=>.inl (by simp)) harr)⟩
 |ret=>exact⟨_,a₁,w₁,hq,.of_steps (.one h0 stepR_seq) (.pass (x:=.code y) rfl (fun _ _=>.inl (by simp)) harr)⟩
 |panic ch=>exact⟨_,a₁,w₁,hq,.of_steps (.one h0 stepR_seq) (.pass (x:=.code y) rfl (fun _ _=>.inl (by simp)) harr)⟩
 |outgrown=>exact⟨_,a₁,w₁,hq,.of_steps (.one h0 stepR_seq) (.pass (x:=.code y) rfl (fun _ _=>.inl (by simp)) harr)⟩
theorem Zo{f:FuncId}{id:Nat}{c:Code}{Q:Exit→Act→World→Prop}{a:Act}{w:World}(h:Xq f P c (fun e a w=>match e with| .normal=>Q .normal a w| .panic ch=>Q (.panic ch) a w|_=>False) a w):Xq f P (Code.block id c) Q a w:=by
 intro b k cs hro hb;obtain⟨e,a₁,w₁,hq,harr⟩:=h b (.inBlock id::k) cs hro hb;cases e with
 |normal=>exact⟨.normal,a₁,w₁,hq,.head (fenced_wide _ _) stepR_block (StepsIn.trans harr (.one (fenced_wide _ _) stepR_inBlock))⟩
 |panic ch=>exact⟨_,a₁,w₁,hq,.of_steps (.one (fenced_wide _ _) stepR_block) harr⟩
 |ret=>exact hq.elim
 |exit id=>exact hq.elim
 |goto l=>exact hq.elim
 |outgrown=>exact hq.elim
theorem Nu{f0:FuncId}{g:Operand}{ps:Array Tmp}{assign body:Code}{Q:Exit→Act→World→Prop}{a:Act}{w:World}{gf:FuncId}{lb:Array Value}
  (hg:a.eval g=.func (.func gf) #[] lb) (eg:∀args w,(callFunc gf args).run P w=.ok (.enter gf args) w)
   (h:∀r:Loop,r.state=.ready→r.pending=none→r.fn=f0→r.tmps=a.tmps→r.params=ps→r.assign=assign→r.body=body→
   CallsIn Fence.wide n P gf (#[.func (.yield (w.heap.size+1)) #[] #[]]++lb) ((w.alloc (.deferred (some []))).alloc (.loop r)) fun
    | .returned _,w₃=>∃w₄,(Instr.endLoop (w.heap.size+1)).run P w₃=.ok none w₄∧Q .normal { a with defers:= { target:=.collected w.heap.size,args:= #[] } ::a.defers } w₄
    | .panicked chain,w₃=>Q (.panic chain) { a with defers:= { target:=.collected w.heap.size,args:= #[] } ::a.defers } w₃
    | .outgrown,_=>False):
  Xq f0 P (Code.rangeFunc g ps assign body) Q a w:=by
 intro b k cs hro hb;have he:=run_enterLoop_outer (P:=P) (w:=w) b.fn a.tmps ps assign body;rw[←hro]at he;obtain⟨w₁,hw₁⟩:∃z,(w.alloc (.deferred (some []))).alloc (.loop { state:=.ready,pending:=none,fn:=b.fn,tmps:=a.tmps,params:=ps,assign,body,defers:=w.heap.size })=z:=⟨_,rfl⟩;rw[hw₁]at he;have hres:(resolve a.eval (rangeCall g (w.heap.size+1)) 0).run P w₁=.ok { target:=.fn (.func gf) lb,args:= #[.func (.yield (w.heap.size+1)) #[] #[]] } w₁:=by
  simp only[resolve,hg];simp[go_sem]
 have hinv:(invoke (.fn (.func gf) lb) #[.func (.yield (w.heap.size+1)) #[] #[]]).run P w₁=.ok (.enter gf (#[.func (.yield (w.heap.size+1)) #[] #[]]++lb)) w₁:=by
  simp[invoke,go_sem,eg]
 have henter:=stepR_rangeFunc (P:=P) (b:=b) (a:=a) (k:=k) (cs:=cs) (w:=w) he hres hinv;have hcall:=h { state:=.ready,pending:=none,fn:=b.fn,tmps:=a.tmps,params:=ps,assign,body,defers:=w.heap.size } rfl rfl hb rfl rfl rfl rfl;rw[hw₁]at hcall;obtain⟨e,w₃,fr,hR,hsteps,hfn,hleave⟩:=hcall.2 (b.atR { a with defers:= [{ target:=.collected w.heap.size,args:= #[] }]++a.defers } (.inRangeFunc (w.heap.size+1)::k)::cs) (room_wide _);cases e with
 |outgrown=>exact hR.elim
 |returned v=>
  obtain⟨w₄,hend,hj⟩:=hR;refine⟨.normal,_,w₄,hj,.head (fenced_wide _ _) henter (StepsIn.trans hsteps (.head (fenced_wide _ _) ?_ (.one (fenced_wide _ _) (stepR_endRangeFunc hend))))⟩;rw[←finish_atR_inRangeFunc (w.heap.size+1) v];exact step_leave_returned hleave
 |panicked chain=>
  refine⟨.panic chain,_,w₃,hR,.inRangeFunc (w.heap.size+1)::k,.head (fenced_wide _ _) henter (StepsIn.trans hsteps (.one (fenced_wide _ _) ?_))⟩;exact(step_leave_panicked hleave).trans (by rw[Frame.raise_atR];rfl)
theorem NM{f:FuncId}{fn:Func}{c:Code}{args:Array Value}{w:World}{R:Ending→World→Prop}
  (hf:P.funcs[f]? =some fn) (hb:fn.body=some c)
  (h:Xq f P c (aaP P fn R) { tmps:=args++Array.replicate (fn.ntmps-args.size) undef,defers:= [] } w):Calls P f args w R:=by
 intro cs
 let b:Frame:= { (default:Frame)with fn:=f,kind:=.normal,roundOf:=none }
 have henter:Frame.enter P f args .normal=
   b.atR { tmps:=args++Array.replicate (fn.ntmps-args.size) undef,defers:= [] } [.code c]:=by
  simp[Frame.enter,Frame.atR,hf,hb,b]
 obtain⟨e,a',w',hq,harr⟩:=h b [] cs rfl rfl;rw[←henter]at harr;cases e with
 |normal=>
  obtain⟨e',w'',fr',hR,hs,hfn,hl⟩:=wz a'.defers .returning w' { b.atR a' []with mode:=.returning } cs rfl rfl rfl hf rfl hq;exact⟨e',w'',fr',hR,Comes.of_steps (Steps.trans harr.steps (.one (stepR_end rfl))) hs,hfn,hl⟩
 |ret=>
  obtain⟨todo,hs₀⟩:=harr.1 rfl;obtain⟨e',w'',fr',hR,hs,hfn,hl⟩:=wz a'.defers .returning w' { b.atR a' todo with mode:=.returning } cs rfl rfl rfl hf rfl hq;exact⟨e',w'',fr',hR,Comes.of_steps hs₀.steps hs,hfn,hl⟩
 |panic chain=>
  obtain⟨todo,hs₀⟩:=harr;obtain⟨e',w'',fr',hR,hs,hfn,hl⟩:=wz a'.defers (.panicking chain) w' { b.atR a' todo with mode:=.panicking chain } cs rfl rfl rfl hf rfl hq;exact⟨e',w'',fr',hR,Comes.of_steps hs₀.steps hs,hfn,hl⟩
 |exit id=>exact hq.elim
 |goto l=>exact hq.elim
 |outgrown=>exact hq.elim
end
inductive Via(E:Nat→Nat→Bool)(k:Nat):Nat→Nat→Prop
 |one {i j:Nat} :E i j=true→Via E k i j
 |cat {i m j:Nat} :Via E k i m→m<k→Via E k m j→Via E k i j
section
variable {E:Nat→Nat→Bool}
theorem Via.mono{k k' i j:Nat}(h:Via E k i j)(hk:k≤k'):Via E k' i j:=by
 induction h with
 |one h=>exact .one h
 |cat _ hm _ ih1 ih2=>exact .cat ih1 (by omega) ih2
theorem Via.succ{k i j:Nat}:Via E (k+1) i j↔Via E k i j∨(Via E k i k∧Via E k k j):=by
 constructor
 ·intro h
  induction h with
  |one h=>exact .inl (.one h)
  | @cat i m j _ hm _ ih1 ih2=>
   by_cases hmk:m=k
   ·subst hmk;exact .inr ⟨ih1.elim id (·.1),ih2.elim id (·.2)⟩
   ·have hm':m<k:=by omega
    rcases ih1 with a|⟨a,b⟩<;>rcases ih2 with c|⟨c,d⟩
    ·exact .inl (.cat a hm' c)
    ·exact .inr ⟨.cat a hm' c,d⟩
    ·exact .inr ⟨a,.cat b hm' c⟩
    ·exact .inr ⟨a,d⟩
 ·rintro(h|⟨h1,h2⟩)
  ·exact h.mono (by omega)
  ·exact .cat (h1.mono (by omega)) (by omega) (h2.mono (by omega))
theorem Via.zero{i j:Nat}:Via E 0 i j↔E i j=true:=by
 constructor
 ·intro h;cases h with
  |one h=>exact h
  |cat _ hm _=>omega
 ·exact .one
theorem countP_le{α:Type}{p q:α→Bool}:∀ {l:List α},(∀x∈l,p x=true→q x=true)→l.countP p≤l.countP q
 |[],_=>Nat.le_refl _
 |x::l,h=>by
  have:=countP_le (l:=l) fun y hy=>h y (by simp[hy])
  have hx:=h x (by simp);rw[List.countP_cons,List.countP_cons];cases hp:p x
  ·cases q x<;>simp<;>omega
  ·rw[hx hp];simp;omega
theorem OW{α:Type}{p q:α→Bool}:∀ {l:List α},(∀x∈l,p x=true→q x=true)→(∃x∈l,p x=false∧q x=true)→l.countP p<l.countP q
 |[],_,⟨_,h,_⟩=>by simp at h
 |x::l,h,⟨y,hy,hp,hq⟩=>by
  have hle:=countP_le (l:=l) (p:=p) (q:=q) fun z hz=>h z (by simp[hz])
  have hx:=h x (by simp);rw[List.countP_cons,List.countP_cons];rcases List.mem_cons.1 hy with rfl|hy
  ·rw[hp,hq];simp;omega
  ·have:=OW (l:=l) (p:=p) (q:=q) (fun z hz=>h z (by simp[hz])) ⟨y,hy,hp,hq⟩;cases hp':p x
   ·cases q x<;>simp<;>omega
   ·rw[hx hp'];simp;omega
def zH(E:Nat→Nat→Bool)(n k c:Nat)(ms:List Nat):Prop:=
 ms.length=n∧∀i m,ms[i]? =some m→m<1024∧∀j,m.testBit j=true↔(if i<c then Via E (k+1) i j else Via E k i j)
theorem zH.row{n k:Nat}{ms:List Nat}(h:zH E n k n ms):zH E n (k+1) 0 ms:=by
 refine⟨h.1,fun i m hi=>⟨(h.2 i m hi).1,fun j=>?_⟩⟩;have hlt:i<n:=by have:=(List.getElem?_eq_some_iff.1 hi).1;have:=h.1;omega
 rw[(h.2 i m hi).2 j,if_pos hlt,if_neg (Nat.not_lt_zero _)]
theorem zH.skip{n k c:Nat}{ms:List Nat}{m:Nat}(h:zH E n k c ms)(hc:ms[c]? =some m)(hb:m.testBit k=false):zH E n k (c+1) ms:=by
 refine⟨h.1,fun i m' hi=>⟨(h.2 i m' hi).1,fun j=>?_⟩⟩;rw[(h.2 i m' hi).2 j]
 by_cases e:i=c
 ·subst e;rw[hc]at hi;injection hi with hi;subst hi
  have hk:=(h.2 i m hc).2 k;rw[if_neg (Nat.lt_irrefl _),hb]at hk;rw[if_neg (Nat.lt_irrefl _),if_pos (Nat.lt_succ_self _),Via.succ (i:=i)];exact⟨.inl,fun h=>h.elim id fun h=>absurd (hk.2 h.1) (by simp)⟩
 ·by_cases hic:i<c
  ·rw[if_pos hic,if_pos (by omega)]
  ·rw[if_neg hic,if_neg (by omega)]
theorem Vm{a b:Nat}(ha:a<1024)(hb:b<1024):a ||| b<1024:=Nat.or_lt_two_pow (n:=10) ha hb
theorem abD{k:Nat}(h:k<10):2 ^ k<1024:=by
 have:=Nat.pow_lt_pow_right (a:=2) (by decide) h;exact this
theorem zH.join{n k c:Nat}{ms:List Nat}{m r:Nat}(h:zH E n k c ms)(hc:ms[c]? =some m)(hr:ms[k]? =some r)(hb:m.testBit k=true):zH E n k (c+1) (ms.set c (m ||| r)):=by
 have hcl:=(List.getElem?_eq_some_iff.1 hc).1;refine⟨by rw[List.length_set];exact h.1,fun i m' hi=>?_⟩
 by_cases e:i=c
 ·subst e;rw[List.getElem?_set_self hcl]at hi;injection hi with hi;subst hi
  refine⟨Vm (h.2 i m hc).1 (h.2 k r hr).1,fun j=>?_⟩;rw[Nat.testBit_or,Bool.or_eq_true,(h.2 i m hc).2 j,(h.2 k r hr).2 j,if_neg (Nat.lt_irrefl _),if_pos (Nat.lt_succ_self _),Via.succ (i:=i)];have hik:=(h.2 i m hc).2 k;rw[if_neg (Nat.lt_irrefl _),hb]at hik;have hik:=hik.1 rfl;constructor
  ·rintro(h1|h1)
   ·exact .inl h1
   ·by_cases hki:k<i
    ·rw[if_pos hki]at h1;exact .inr ⟨hik,(Via.succ.1 h1).elim id (·.2)⟩
    ·rw[if_neg hki]at h1;exact .inr ⟨hik,h1⟩
  ·rintro(h1|h1)
   ·exact .inl h1
   ·right
    by_cases hki:k<i
    ·rw[if_pos hki];exact Via.succ.2 (.inl h1.2)
    ·rw[if_neg hki];exact h1.2
 ·rw[List.getElem?_set_ne (by omega)]at hi;refine⟨(h.2 i m' hi).1,fun j=>?_⟩;rw[(h.2 i m' hi).2 j]
  by_cases hic:i<c
  ·rw[if_pos hic,if_pos (by omega)]
  ·rw[if_neg hic,if_neg (by omega)]
theorem zH.start{n:Nat}{ms:List Nat}(hl:ms.length=n)(h:∀i m,ms[i]? =some m→m<1024∧∀j,m.testBit j=true↔E i j=true):zH E n 0 0 ms:=
 ⟨hl,fun i m hi=>⟨(h i m hi).1,fun j=>by rw[(h i m hi).2 j,if_neg (Nat.not_lt_zero _),Via.zero]⟩⟩
end
def Done(R:Nat→Bool)(n:Nat)(ds:List Nat)(d:Nat):Prop:=d<1024∧∀i,d.testBit i=(decide (i<n)&&(R i||ds.contains i))
theorem Done.add{R:Nat→Bool}{n i d:Nat}{ds:List Nat}(h:Done R n ds d)(hi:i<n)(h10:n≤10):Done R n (ds++ [i]) (d ||| 2 ^ i):=by
 refine⟨Vm h.1 (abD (by omega)),fun j=>?_⟩;rw[Nat.testBit_or,Nat.testBit_two_pow,h.2 j]
 by_cases e:i=j
 ·subst e;simp[hi]
 ·have e':¬j=i:=fun h=>e h.symm
  simp[e,e',List.contains_eq_mem]
set_option maxRecDepth 1000000
def DY:List Char:= [104,97,114,110,101,115,115].map Char.ofNat
def DZ:List Char:= [53,57,48,102,57,98,49,55,52,102,98,53,102,100,100,48,100,49,99,51,57,101,56,50,100,56,48,101,54,98,98,100,102,50,102,54,51,51,102,54,100,49,49,98,57,98,101,100,100,55,57,101,57,52,57,98,102,53,98,53,49,57,50,99].map Char.ofNat
def wB:List Char:= [99,117,116].map Char.ofNat
def aev:List Char:= [97,116,32,115,99,117,108,108,101,114,121,47,115,99,117,108,108,101,114,121,107,101,101,112,46,84,114,101,101,115,66,97,99,107,32,115,99,117,108,108,101,114,121,47,115,99,117,108,108,101,114,121,108,97,119,46,77,111,100,117,108,101,85,115,101,115,32,115,99,117,108,108,101,114,121,47,115,99,117,108,108,101,114,121,108,97,119,46,77,111,100,117,108,101,67,104,101,99,107,115,32,115,99,117,108,108,101,114,121,47,115,99,117,108,108,101,114,121,107,101,101,112,46,76,105,116,101,114,97,108,115,70,105,116,32,115,99,117,108,108,101,114,121,47,115,99,117,108,108,101,114,121,107,101,101,112,46,86,97,114,115,70,105,116,32,115,99,117,108,108,101,114,121,47,115,99,117,108,108,101,114,121,107,101,101,112,46,65,108,105,97,115,101,115,83,97,109,101,32,115,99,117,108,108,101,114,121,47,115,99,117,108,108,101,114,121,107,101,101,112,46,70,97,99,101,115,71,111,111,100].map Char.ofNat
theorem yP:∀(a b:List Char),(∀c∈a,c≠Char.ofNat 32)→wordsSigns (a++Char.ofNat 32::b)=a::wordsSigns b
 |[],b,_=>rfl
 |c::r,b,h=>by
  have ih:=yP r b (fun x hx=>h x (by simp[hx]));have hc:c≠Char.ofNat 32:=h c (by simp);rw[List.cons_append,wordsSigns,ih];exact hc
theorem afE(P:Program)(Q:List (List Char))(h:wordsSigns P.initOrder.toList=DY::DZ::wB::Q):P.make=some .cut:=by
 unfold Program.make;rw[h];generalize P.headLifts=hl
 rfl
theorem QW(P:Program)(Q:List (List Char))(h:wordsSigns P.initOrder.toList=DY::DZ::wB::Q):P.headLifts= []:=by
 unfold Program.headLifts;rw[h]
 rfl
theorem N8(P:Program)(Q:List (List Char))(h:wordsSigns P.initOrder.toList=DY::DZ::wB::Q):P.liftsFinal=false:=by
 unfold Program.liftsFinal;rw[h,QW P Q h]
 rfl
theorem Vd(P:Program)(Q:List (List Char))(h:wordsSigns P.initOrder.toList=DY::DZ::wB::Q)(h1:P.laysLater=false)(h2:P.bearsReflect=false)(h3:P.doorFits []=true):P.mayEnter=true:=by
 unfold Program.mayEnter;rw[h,h1,h2,show behindMainWord (DY::DZ::wB::Q)=wB::Q from rfl];simp only[show stripLifts liftWords (wB::Q)=([],wB::Q)from rfl,h3]
 rfl
theorem Tryz.own:ownKnob prog.godebug=none:=by kernel_rfl
theorem Tryz.laidOut:laidOutB prog=true:=by kernel_rfl
theorem Tryz.mapsRowed:mapsRowed prog=true:=by kernel_rfl
theorem Tryz.stopsHeard:prog.stopsHeard=true:=by kernel_rfl
theorem Rk:prog.initOrder=String.ofList (DY++Char.ofNat 32::(DZ++Char.ofNat 32::(wB++Char.ofNat 32::aev))):=by kernel_rfl
theorem Ns:wordsSigns prog.initOrder.toList=DY::DZ::wB::wordsSigns aev:=by
 rw[Rk,String.toList_ofList,yP _ _ (by decide),yP _ _ (by decide),yP _ _ (by decide)]
theorem Ru:prog.laysLater=false:=by kernel_rfl
theorem Je:prog.bearsReflect=false:=by kernel_rfl
theorem Uk:prog.doorFits []=true:=by kernel_rfl
theorem Tryz.mayEnter:prog.mayEnter=true:=Vd _ _ Ns Ru Je Uk
theorem Tryz.liftsFinal:prog.liftsFinal=false:=N8 _ _ Ns
theorem Tryz.make:prog.make=some .cut:=afE _ _ Ns
theorem ZB{a0 a1 a2 a3 a4 a5 a6 a7 a8 a9 a10 a11 a12 a13 a14 a15 a16 a17 a18 a19 a20 a21 a22 a23 a24 a25 a26 a27 a28 a29 a30 a31:Bool}(h0:a0=true)(h1:a1=true)(h2:a2=true)(h3:a3=true)(h4:a4=true)(h5:a5=true)(h6:a6=true)(h7:a7=true)(h8:a8=true)(h9:a9=true)(h10:a10=true)(h11:a11=true)(h12:a12=true)(h13:a13=true)(h14:a14=true)(h15:a15=true)(h16:a16=true)(h17:a17=true)(h18:a18=true)(h19:a19=true)(h20:a20=true)(h21:a21=true)(h22:a22=true)(h23:a23=true)(ng:a24=true)(h25:a25=true)(h26:a26=true)(h27:a27=true)(h28:a28=true)(h29:a29=true)(h30:a30=true)(h31:a31=true):(a0&&a1&&a2&&a3&&a4&&a5&&a6&&a7&&a8&&a9&&a10&&a11&&a12&&a13&&a14&&a15&&a16&&a17&&a18&&a19&&a20&&a21&&a22&&a23&&a24&&a25&&a26&&a27&&a28&&a29&&a30&&a31)=true:=by
 rw[h0,h1,h2,h3,h4,h5,h6,h7,h8,h9,h10,h11,h12,h13,h14,h15,h16,h17,h18,h19,h20,h21,h22,h23,ng,h25,h26,h27,h28,h29,h30,h31]
 rfl
end Go.Proofs.YtjaladhdnbhliaaGreatDoor
