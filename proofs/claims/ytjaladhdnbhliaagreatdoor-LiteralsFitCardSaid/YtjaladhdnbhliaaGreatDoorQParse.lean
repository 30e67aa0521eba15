/- Parts. -/
import Derived.Test.YtjaladhdnbhliaaGreatDoorQLineRead
set_option maxHeartbeats 8000000
set_option maxRecDepth 100000
namespace Go.Proofs.YtjaladhdnbhliaaGreatDoor
open Go.Proofs.Tryz
open Go.RowKit Go.Shelf
attribute [local go_sem] Oper.semAt_some
structure PSt(W0:World)(r:Loop)(m:Module)(W:World):Prop where
 mods:Ep W W0.heap.size (W0.heap.size+7) m
 err:Box W (W0.heap.size+1) 29 #[.int .i64 0]
 dfr:W.heap[W0.heap.size+5]? =some (.deferred (some []))
 rcd:W.heap[W0.heap.size+6]? =some (.loop { r with state:=.ready,pending:=none })
 low:Below W0.heap.size W0 W
 big:W0.heap.size+7≤W.heap.size
structure PEx(W0:World)(W:World):Prop where
 mods:∃m,Ep W W0.heap.size (W0.heap.size+7) m
 err:Box W (W0.heap.size+1) 29 #[.int .i64 0]
 dfr:W.heap[W0.heap.size+5]? =some (.deferred (some []))
 low:Below W0.heap.size W0 W
 big:W0.heap.size+7≤W.heap.size
theorem Ky{s:ByteArray}{L:List Token}(h:wR s=(L,0)):L.length≤200∧(∀t∈L,1≤t.kind)∧∀t∈L,t.kind=2→jC t.text=true:=by
 obtain⟨_,hc,hl⟩:=aaS h;have hg:=Ui _ _ _ (aJ _) hc;have hk:∀t∈L,1≤t.kind∧t.kind≤4∧sJ t=true:=fun t ht=>by
  have h0:=hg t ht;unfold lV at h0;split at h0
  ·cases h0
  ·rename_i hk
   split at h0
   ·rename_i ho;exact⟨by omega,by omega,ho⟩
   ·cases h0
 refine⟨hl,fun t ht=>(hk t ht).1,fun t ht h2=>?_⟩;have:=(hk t ht).2.2;unfold sJ at this;rw[if_neg (by omega),if_pos h2]at this;exact this
def tot(m:Module):Nat:=m.uses.length+m.types.length+m.funcs.length
theorem U7{m:Module}{s:ByteArray}{k:Int}(h:nK m s=.error k):k≠0:=by
 unfold nK at h;split at h
 ·cases h;assumption
 ·exact afJ h
theorem RG{α:Type}{p:Pr α}{l:List Token}{f:α×List Token→Module}{m m':Module}(h:(uQ p l).map f=.ok m')(hf:∀x,tot (f x)=tot m+1):tot m'≤tot m+1:=by
 cases hp:uQ p l with
 |error e=>rw[hp]at h;cases h
 |ok x=>rw[hp]at h;cases h;rw[hf];exact aJ _
theorem LG{m m':Module}{L:List Token}(h:Ap m L=.ok m'):tot m'≤tot m+1:=by
 cases L with
 |nil=>cases h;omega
 |cons t r=>
  rw[Dw]at h;split at h
  ·cases h
  split at h
  ·exact RG h (fun x=>by simp[tot];omega)
  split at h
  ·exact RG h (fun x=>by simp[tot];omega)
  split at h
  ·exact RG h (fun x=>by simp[tot];omega)
  ·cases h
def acW(B:Nat)(W:World)(v:Value)(m:Module):Prop:=aZ aY 1 9 B W none_ v m.uses
def Gl(W0:World)(R:Except Int Module)(e:Ending)(W':World):Prop:=∃(v1 v2 v3:Value) (k:Int),e=.returned (.tuple #[.agg #[v1,v2,v3],.int .i64 k])∧Below W0.heap.size W0 W'∧
 ((∃m,R=.ok m∧k=0∧aN W' (fresh W0.heap.size W'.heap.size) [v1,v2,v3] m∧acW W0.heap.size W' v1 m)∨(R=.error k∧k≠0∧∃U n c T p d X q e,v1=.slice U n c∧v2=.slice T p d∧v3=.slice X q e))
theorem Below.FK{n r:Nat}{w w':World}(h:Below n w w')(hr:n≤r)(o:Obj):Below n w (w'.putObj r o):=
 ⟨h.os,h.tape,h.output,by rw[World.putObj_size];exact h.size,fun k hk=>(World.putObj_heap_other (by omega)).trans (h.block k hk)⟩
theorem abC{W0 W:World}{R:Except Int Module}{k:Int}{tmps:Array Value}(h:PEx W0 W)(hk:k≠0)(hR:R=.error k)(h2:tmps[2]? =some (.pointer (some ⟨W0.heap.size,0,none⟩)))(h3:tmps[3]? =some (.pointer (some ⟨W0.heap.size+1,0,none⟩))):
  vw prog Tryz.f38 tmps (Gl W0 R) [{ target:=.collected (W0.heap.size+5),args:= #[] },{ target:=.fn (.func 70) #[],args:= #[.pointer (some ⟨W0.heap.size+1,0,none⟩)] }] (.panicking [iU k]) W:=by
 obtain⟨m,U,T,X,cu,ct,cx,Gt,Gf,hm⟩:=h.mods;refine⟨by simp,.inl ⟨_,_,rfl,run_takeDeferred h.dfr,?_⟩⟩;obtain⟨W1,hW1⟩:∃z,W.putObj (W0.heap.size+5) (.deferred none)=z:=⟨_,rfl⟩;rw[hW1];have hz1:W1.heap.size=W.heap.size:=by rw[←hW1];exact World.putObj_size
 have hb1:Below W0.heap.size W0 W1:=by rw[←hW1];exact Below.FK h.low (by omega) _
 have hB1:Box W1 W0.heap.size 27 _:=hm.box.of_heap (by rw[←hW1];exact World.putObj_heap_other (by omega));have hE1:Box W1 (W0.heap.size+1) 29 #[.int .i64 0]:=h.err.of_heap (by rw[←hW1];exact World.putObj_heap_other (by omega));refine⟨by simp,.inr ⟨_,_,70,#[.pointer (some ⟨W0.heap.size+1,0,none⟩)],rfl,by simp[go_sem],?_⟩⟩;refine(wP ⟨W0.heap.size+1,0,none⟩ 0 k W1 (hE1.at_ 0 _ rfl) (hE1.free 0)).mono ?_;rintro e' u' w'' ⟨rfl,rfl,rfl⟩;have hE2:=(hE1.alloc (.cells #[.int .i64 k] 176)).put 0 (.int .i64 k);have hB2:=(hB1.alloc (.cells #[.int .i64 k] 176)).far (p:=⟨W0.heap.size+1,0,none⟩) (show W0.heap.size≠W0.heap.size+1 by omega) (.int .i64 k);have c0:=hB2.at_ 0 _ rfl;have c1:=hB2.at_ 1 _ rfl;have c2:=hB2.at_ 2 _ rfl;have e0:=hE2.at_ 0 _ rfl;have hb2:Below W0.heap.size W0 ((W1.alloc (.cells #[.int .i64 k] 176)).setCell ⟨W0.heap.size+1,0,none⟩ (.int .i64 k)):=(hb1.alloc hb1.size _).setCell (p:=⟨W0.heap.size+1,0,none⟩) (by show W0.heap.size≤W0.heap.size+1;omega) _;refine⟨.tuple #[.agg #[.slice U m.uses.length cu,.slice T m.types.length ct,.slice X m.funcs.length cx],.int .i64 k],?_,_,_,_,_,rfl,hb2,.inr ⟨hR,hk,_,_,_,_,_,_,_,_,_,rfl,rfl,rfl⟩⟩;have b0:=hB1.at_ 0 _ rfl;have b1:=hB1.at_ 1 _ rfl;have b2:=hB1.at_ 2 _ rfl;simp[results,results38,go_sem,h2,h3,c0,c1,c2,e0]
theorem YS{W0 W:World}{R:Except Int Module}{m:Module}{tmps:Array Value}{U T X:Option Addr}{n c p d q e:Nat}(hB:Box W W0.heap.size 27 #[.slice U n c,.slice T p d,.slice X q e])(hE:Box W (W0.heap.size+1) 29 #[.int .i64 0])(hd:W.heap[W0.heap.size+5]? =some (.deferred (some [])))
  (hl:Below W0.heap.size W0 W) (hR:R=.ok m) (hM:aN W (fresh (W0.heap.size+7) W.heap.size) [.slice U n c,.slice T p d,.slice X q e] m) (hO:acW (W0.heap.size+7) W (.slice U n c) m) (h2:tmps[2]? =some (.pointer (some ⟨W0.heap.size,0,none⟩))) (h3:tmps[3]? =some (.pointer (some ⟨W0.heap.size+1,0,none⟩))):
  vw prog Tryz.f38 tmps (Gl W0 R) [{ target:=.collected (W0.heap.size+5),args:= #[] },{ target:=.fn (.func 70) #[],args:= #[.pointer (some ⟨W0.heap.size+1,0,none⟩)] }] .returning W:=by
 refine⟨by simp,.inl ⟨_,_,rfl,run_takeDeferred hd,?_⟩⟩;obtain⟨W1,hW1⟩:∃z,W.putObj (W0.heap.size+5) (.deferred none)=z:=⟨_,rfl⟩;rw[hW1];have hz1:W1.heap.size=W.heap.size:=by rw[←hW1];exact World.putObj_size
 have hoth:∀k,k≠W0.heap.size+5→W1.heap[k]? =W.heap[k]? :=fun k hk=>by rw[←hW1];exact World.putObj_heap_other hk
 have hb1:Below W0.heap.size W0 W1:=by rw[←hW1];exact Below.FK hl (by omega) _
 have hB1:=hB.of_heap (hoth _ (by omega));have hE1:=hE.of_heap (hoth _ (by omega));have hM1:aN W1 (fresh W0.heap.size W1.heap.size) _ m:=aN.stays _ _ _ _ _ _ hM (fun k hk=>⟨by have:=hk.1;omega,by have:=hk.2;omega⟩) (fun p hp=>World.cell?_of_block (hoth _ (by have:=hp.1;omega)));have hO1:acW W0.heap.size W1 (.slice U n c) m:=(aZ.kept aY.stays hO (by omega) (fun k _ hk=>hoth k (fun e=>hk.elim (fun h=>h.elim) (fun h=>by have:=(aZ.row hO h).1;omega)))).low (by omega);refine⟨by simp,.inr ⟨_,_,70,#[.pointer (some ⟨W0.heap.size+1,0,none⟩)],rfl,by simp[go_sem],?_⟩⟩;refine(Ii ⟨W0.heap.size+1,0,none⟩ W1).mono ?_;rintro e' u' w'' ⟨rfl,rfl,rfl⟩;have c0:=hB1.at_ 0 _ rfl;have c1:=hB1.at_ 1 _ rfl;have c2:=hB1.at_ 2 _ rfl;have e0:=hE1.at_ 0 _ rfl;refine⟨.tuple #[.agg #[.slice U n c,.slice T p d,.slice X q e],.int .i64 0],?_,_,_,_,_,rfl,hb1,.inl ⟨m,hR,rfl,hM1,hO1⟩⟩;simp[results,results38,go_sem,h2,h3,c0,c1,c2,e0]
theorem parse_any(s:ByteArray)(W0:World)(mx:Int)(hs:s.size≤1500)(hT:Tabs W0 mx):Calls prog 38 #[.string s] W0 (Gl W0 (mG jJ (iP s.data.toList))):=by
 obtain⟨R,hR⟩:∃R,mG jJ (iP s.data.toList)=R:=⟨_,rfl⟩;rw[hR];refine NM (f:=38) func38 rfl ?_;simp only[ntmps38,List.size_toArray,List.length_cons,List.length_nil,Nat.reduceAdd,Nat.reduceSub,Array.replicate_succ,Array.replicate_zero,List.push_toArray,List.append_toArray,List.nil_append,List.cons_append];refine FY (yQ ?_);go_wp2;have dX:=((Box.made W0 27 #[.slice none 0 0,.slice none 0 0,.slice none 0 0]).alloc (.cells #[.int .i64 0] 29));have dM:=(Box.made (W0.alloc (.cells #[.slice none 0 0,.slice none 0 0,.slice none 0 0] 27)) 29 #[.int .i64 0]);rw[show(W0.alloc (.cells #[.slice none 0 0,.slice none 0 0,.slice none 0 0] 27)).heap.size=W0.heap.size+1 by simp only[World.size_alloc]]at dM;have hbb:Below W0.heap.size W0 ((W0.alloc (.cells #[.slice none 0 0,.slice none 0 0,.slice none 0 0] 27)).alloc (.cells #[.int .i64 0] 29)):=by go_grown
 have hzb:((W0.alloc (.cells #[.slice none 0 0,.slice none 0 0,.slice none 0 0] 27)).alloc (.cells #[.int .i64 0] 29)).heap.size=W0.heap.size+1+1:=by simp only[World.size_alloc]
 generalize(W0.alloc (.cells #[.slice none 0 0,.slice none 0 0,.slice none 0 0] 27)).alloc (.cells #[.int .i64 0] 29)=W1 at dX dM hbb hzb⊢;refine FY (yQ ?_);go_wp2;refine FY (FY (yQ ?_));go_wp2_with fail;refine(Sv s W1).mono ?_;rintro e W2 ⟨rfl,hT2,hb2,hz2⟩;go_wp2_with fail;have e2:W2.heap.size=W0.heap.size+5:=by omega
 rw[hzb]at hT2;refine Zo (Nu (n:=0) rfl (enters_of func188 (by kernel_rfl) rfl) ?_);intro r hst hpe hfn htm hps has ni;have Yw:∀(m:Module) (x:List UInt8) (W:World),PSt W0 r m W→tot m≤1501→x.length≤1501→YieldAt Fence.wide (0-1) prog (W0.heap.size+6) #[.string (lit x)] W fun e W'=>
   (∃m',nK m (lit x)=.ok m'∧e=.returned (.bool true)∧PSt W0 r m' W'∧∀k,W0.heap.size+2≤k→k≤W0.heap.size+4→W'.heap[k]? =W.heap[k]?)∨(∃k,nK m (lit x)=.error k∧e=.panicked [iU k]∧PEx W0 W'):=by
  intro m x W hp hm hx;have hy:=run_yield (P:=prog) (args:= #[.string (lit x)]) hp.rcd (by show 1=r.params.size;rw[hps];rfl);refine⟨_,_,_,_,hy,?_⟩;clear hy
  show RoundIn _ _ _ _ r.fn ((r.params.zip #[.string (lit x)]).foldl (fun tmps (t,a)=>tmps.setIfInBounds t a) r.tmps) r.assign r.body W _
  rw[hfn,has,ni,htm,hps];simp only[List.zip_toArray,List.zip_cons_cons,List.zip_nil_right,List.foldl_toArray,List.foldl_cons,List.foldl_nil,List.setIfInBounds_toArray,List.set_cons_zero,List.set_cons_succ];refine FP func38 trivial ?_
  gi_wp2
  refine⟨_,run_beginRound hp.rcd rfl,?_⟩;obtain⟨U,T,X,cu,ct,cx,Gt,Gf,hmd⟩:=hp.mods;obtain⟨Wb,hWb⟩:∃z,W.putObj (W0.heap.size+6) (.loop { r with state:=.busy,pending:=none })=z:=⟨_,rfl⟩;have aku:W.putObj (W0.heap.size+6) (.loop { { r with state:=.ready,pending:=none } with state:=.busy })=Wb:=hWb;rw[aku];have hzB:Wb.heap.size=W.heap.size:=by rw[←hWb];exact World.putObj_size
  have hoth:∀k,k≠W0.heap.size+6→Wb.heap[k]? =W.heap[k]? :=fun k hk=>by rw[←hWb];exact World.putObj_heap_other hk
  have hbig:=hp.big;have hrb:Wb.heap[W0.heap.size+6]? =some (.loop { r with state:=.busy,pending:=none }):=by rw[←hWb];exact World.putObj_heap_same (by omega)
  have hmb:=hmd.touch (q:=W0.heap.size+6) (by omega) (by omega) (by omega) (fun k _ hk=>hoth k hk);have heb:Box Wb (W0.heap.size+1) 29 #[.int .i64 0]:=hp.err.of_heap (hoth _ (by omega));have hdb:Wb.heap[W0.heap.size+5]? =some (.deferred (some [])):=(hoth _ (by omega)).trans hp.dfr;have hlb:Below W0.heap.size W0 Wb:=by rw[←hWb];exact Below.FK hp.low (by omega) _
  have hTb:=hT.later hlb;obtain⟨⟨L,f⟩,hE⟩:∃E,wR (lit x)=E:=⟨_,rfl⟩;have hct:=Zi (lit x) Wb mx hTb;rw[hE]at hct;clear hWb aku hmd hT2 hb2
  gi_wp2
  refine⟨trivial,rfl,(CallsIn.inRound _ (callsIn_wide.2 hct)).mono ?_⟩;rintro e W4 ⟨v,rfl,hb4,hsl⟩;dsimp only at hsl⊢;have hm4:=hmb.later hb4;have he4:=heb.later hb4 heb.lt;have hd4:W4.heap[W0.heap.size+5]? =some (.deferred (some [])):=(hb4.block _ (by omega)).trans hdb;have hr4:W4.heap[W0.heap.size+6]? =some (.loop { r with state:=.busy,pending:=none }):=(hb4.block _ (by omega)).trans hrb;have hl4:Below W0.heap.size W0 W4:=hlb.trans (hb4.mono (by omega));have hs4:=hb4.size
  by_cases hf:f=0
  ·subst hf;obtain⟨htl,htk,htn⟩:=Ky hE;obtain⟨A,c,rfl,_⟩:=hsl.form;have hln:nK m (lit x)=Ap m L:=by unfold nK;rw[hE,if_neg (by simp)]
   have hres:∀k,W0.heap.size+2≤k→k≤W0.heap.size+4→W4.heap[k]? =W.heap[k]? :=fun k h1 h2=>(hb4.block k (by omega)).trans (hoth k (by omega))
   have hft:∀k,fresh Wb.heap.size W4.heap.size k→k<W4.heap.size:=fun k hk=>hk.2
   unfold tot at hm;obtain⟨HLN,amX,qR,HTN,TK,HE4,HD4,HR4,AZ,HSL⟩:=aG hln hres htk htn hm4 he4 hd4 hr4 hl4 hsl;clear hln hres htk htn hm4 he4 hd4 hr4 hl4 hsl;clear hp hmb heb hE hct hoth hlb hTb hdb hrb
   gi_wp2
   refine⟨trivial,rfl,(CallsIn.inRound _ (callsIn_wide.2 (bF _ _))).mono ?_⟩;rintro e w' ⟨rfl,rfl⟩
   gi_wp2
   have hBd:=Box.made W4 141 #[.slice A L.length c,.int .i64 0];have hbd:Below W4.heap.size W4 (W4.alloc (.cells #[.slice A L.length c,.int .i64 0] 141)):=by go_grown
   have hzd:(W4.alloc (.cells #[.slice A L.length c,.int .i64 0] 141)).heap.size=W4.heap.size+1:=by simp
   generalize W4.alloc (.cells #[.slice A L.length c,.int .i64 0] 141)=W5 at hBd hbd hzd⊢;have hlk:Look W4.heap.size (fresh Wb.heap.size W4.heap.size) W5 W5 L 0:=⟨⟨A,c,hBd,HSL.out.stays fG.stays (fun _ h=>h) (Keeps.of_below hbd hft)⟩,Grew.Vr _ _ _ tC,hft,HTN.out⟩;have ah6:=ad6 W4 W5 L hlk htl qR.out TK.out rfl hbd (by omega) (by omega) (by omega) (by omega);refine⟨trivial,rfl,(CallsIn.inRound _ (callsIn_wide.2 ah6)).mono ?_⟩;rintro e W6 ⟨m',F9,kL,hcase⟩;have he6:=kL.box (HE4.out.later hbd HE4.out.lt) (by omega) (by omega);have hd6:W6.heap[W0.heap.size+5]? =some (.deferred (some [])):=(kL.block _ (by omega) (by omega)).trans ((hbd.block _ (by omega)).trans HD4.out);have rF:W6.heap[W0.heap.size+6]? =some (.loop { r with state:=.busy,pending:=none }):=(kL.block _ (by omega) (by omega)).trans ((hbd.block _ (by omega)).trans HR4.out);have hl5:Below W0.heap.size W0 W5:=AZ.out.trans (hbd.mono (by omega));have nY:Below W0.heap.size W0 W6:=⟨kL.os.trans hl5.os,kL.tape.trans hl5.tape,kL.output.trans hl5.output,Nat.le_trans hl5.size kL.size,fun k hk=>(kL.block k (by omega) (by omega)).trans (hl5.block k hk)⟩;have hs5:=hbd.size;have hs6:=kL.size;have agC:∀k,W0.heap.size+2≤k→k≤W0.heap.size+4→W6.heap[k]? =W.heap[k]? :=fun k h1 h2=>(kL.block k (by omega) (by omega)).trans ((hbd.block k (by omega)).trans (amX.out k h1 h2))
   rcases hcase with ⟨rfl,hok⟩|⟨k,rfl,hno⟩
   ·obtain⟨U',T',X',cu',ct',cx',Gt',Gf',ak0⟩:=F9;have hx6:nK m (lit x)=.ok m':=HLN.out.trans hok;obtain⟨W7,hW7⟩:∃z,W6.putObj (W0.heap.size+6) (.loop { r with state:=.ready,pending:=none })=z:=⟨_,rfl⟩;have hend:(Instr.endRound (W0.heap.size+6) none).run prog W6=.ok (.bool true) W7:=by rw[←hW7];exact run_endRound (r:= { r with state:=.busy,pending:=none }) none rF
    have qo:W7.heap.size=W6.heap.size:=by rw[←hW7];exact World.putObj_size
    have UG:∀k,k≠W0.heap.size+6→W7.heap[k]? =W6.heap[k]? :=fun k hk=>by rw[←hW7];exact World.putObj_heap_other hk
    have hp7:PSt W0 r m' W7:=⟨⟨U',T',X',cu',ct',cx',Gt',Gf',ak0.touch (q:=W0.heap.size+6) (by omega) (by omega) (by omega) (fun k _ hk=>UG k hk)⟩,he6.of_heap (UG _ (by omega)),(UG _ (by omega)).trans hd6,by rw[←hW7];exact World.putObj_heap_same (by omega),by rw[←hW7];exact Below.FK nY (by omega) _,by omega⟩;obtain⟨HP7,CQ,agX,ajF,ajx⟩:=ay hp7 hx6 hend agC UG;clear hp7 hx6 hend agC UG;clear ak0 he6 hd6 rF nY kL hW7 hok hBd hbd hlk ah6
    gi_wp2
    exact⟨_,_,agX.out,.inl ⟨m',CQ.out,rfl,HP7.out,fun k h1 h2=>(ajx.out k (by omega)).trans (ajF.out k h1 h2)⟩⟩
   ·have hx6:nK m (lit x)=.error k:=HLN.out.trans hno;have hex:PEx W0 W6:=⟨⟨m',F9⟩,he6,hd6,nY,by omega⟩;obtain⟨HEX,CQ⟩:=aj hex hx6;clear hex hx6;clear he6 hd6 rF nY kL hno hBd hbd hlk ah6 F9
    gi_wp2
    exact⟨rfl,.inr ⟨k,CQ.out,rfl,HEX.out⟩⟩
  ·have hfz:(f==0)=false:=by simp[hf]
   have hln:nK m (lit x)=.error f:=by unfold nK;rw[hE,if_pos hf]
   have hex:PEx W0 W4:=⟨⟨m,U,T,X,cu,ct,cx,Gt,Gf,hm4⟩,he4,hd4,hl4,by omega⟩;obtain⟨HEX,HLN⟩:=aj hex hln;clear hex hln;clear hp hm4 hmb he4 heb hsl hE hct hf
   gi_wp2
   refine⟨trivial,rfl,(CallsIn.inRound _ (callsIn_wide.2 (bQ _ _))).mono ?_⟩;rintro e w' ⟨rfl,rfl⟩
   gi_wp2
   exact⟨rfl,.inr ⟨f,HLN.out,rfl,HEX.out⟩⟩
 rw[e2];obtain⟨W3,hW3⟩:∃z,(W2.alloc (.deferred (some []))).alloc (.loop r)=z:=⟨_,rfl⟩;rw[hW3];have hb3:Below W2.heap.size W2 W3:=by rw[←hW3];exact((Below.refl _ W2).alloc (aJ _) _).alloc (by simp) _
 have hz3:W3.heap.size=W0.heap.size+7:=by rw[←hW3];simp;omega
 have hd3:W3.heap[W0.heap.size+5]? =some (.deferred (some [])):=by rw[←hW3,←e2,Below.heap_alloc _ _ _ (by simp)];exact World.alloc_heap_new _ _
 have hr3:W3.heap[W0.heap.size+6]? =some (.loop { r with state:=.ready,pending:=none }):=by
  have h:=World.alloc_heap_new (W2.alloc (.deferred (some []))) (.loop r);rw[World.size_alloc,e2,hW3]at h;rw[h];have hrr:({ r with state:=.ready,pending:=none } :Loop)=r:=by rw[←hst,←hpe]
  rw[hrr]
 have hB3:Box W3 W0.heap.size 27 #[.slice none 0 0,.slice none 0 0,.slice none 0 0]:=(dX.later hb2 dX.lt).later hb3 (by omega);have hE3:Box W3 (W0.heap.size+1) 29 #[.int .i64 0]:=(dM.later hb2 dM.lt).later hb3 (by omega);have hl3:Below W0.heap.size W0 W3:=(hbb.trans (hb2.mono (by omega))).trans (hb3.mono (by omega));have hp3:PSt W0 r jJ W3:=⟨⟨_,_,_,_,_,_,_,_,qg.start hB3 (by omega)⟩,hE3,hd3,hr3,hl3,by omega⟩;have Cc:TT W3 (W0.heap.size+2) s.data.toList:=⟨hT2.s.later hb3 (by omega),hT2.sep.later hb3 (by omega),hT2.save.later hb3 (by omega)⟩;have hsl:s.data.toList.length≤1500:=by rw[Array.length_toList];exact hs
 refine(Sr (n:=0) (l:=W0.heap.size+6) (q:=W0.heap.size+2)
  (fun rest W=>∃m,R=mG m (iP rest)∧tot m+rest.length≤1501∧PSt W0 r m W) (fun W=>∃m,R=.ok m∧tot m≤3000∧PSt W0 r m W) (fun ch W=>∃k,k≠0∧ch= [iU k]∧R=.error k∧PEx W0 W)
  ?hJ ?hY ?hL s.data.toList W3 (by omega) ⟨jJ,hR.symm,by show 0+0+0+_≤_;omega,hp3⟩ Cc).mono ?post
 case hJ=>
  rintro rest W W' ⟨m,h1,h2,hp⟩ ht;obtain⟨U,T,X,cu,ct,cx,Gt,Gf,hmd⟩:=hp.mods;have hbig:=hp.big;exact⟨m,h1,h2,⟨U,T,X,cu,ct,cx,Gt,Gf,hmd.touch (q:=W0.heap.size+2) (by omega) (by omega) ht.size ht.block⟩,hp.err.of_heap (ht.block _ hp.err.lt (by omega)),(ht.block _ (by omega) (by omega)).trans hp.dfr,(ht.block _ (by omega) (by omega)).trans hp.rcd,
   hp.low.trans ⟨ht.os,ht.tape,ht.output,ht.size,fun k hk=>ht.block k (by omega) (by omega)⟩,by have:=ht.size;omega⟩
 case hY=>
  rintro x rest W hx ⟨m,h1,h2,hp⟩ htr;rw[List.length_append,List.length_cons]at h2;refine(Yw m x W hp (by omega) (by omega)).mono ?_;rintro e W' (⟨m',h3,rfl,hp',hk⟩|⟨k,h3,rfl,hex⟩)
  ·rw[Aq hx,Hu h3]at h1;have aoo:tot m'≤tot m+1:=by
    unfold nK at h3;split at h3
    ·cases h3
    ·exact LG h3
   exact .inl ⟨rfl,⟨m',h1,by omega,hp'⟩,⟨htr.s.of_heap (hk _ (by omega) (by omega)),htr.sep.of_heap (hk _ (by omega) (by omega)),htr.save.of_heap (hk _ (by omega) (by omega))⟩⟩
  ·rw[Aq hx,Ht h3]at h1;exact .inr ⟨_,rfl,k,U7 h3,rfl,h1,hex⟩
 case hL=>
  rintro x W hx ⟨m,h1,h2,hp⟩;refine(Yw m x W hp (by omega) (by omega)).mono ?_;rw[LH hx]at h1;rintro e W' (⟨m',h3,rfl,hp',_⟩|⟨k,h3,rfl,hex⟩)
  ·rw[Hu h3]at h1;have aoo:tot m'≤tot m+1:=by
    unfold nK at h3;split at h3
    ·cases h3
    ·exact LG h3
   exact .inl ⟨rfl,m',h1,by omega,hp'⟩
  ·rw[Ht h3]at h1;exact .inr ⟨_,rfl,k,U7 h3,rfl,h1,hex⟩
 case post=>
  clear Yw hp3 Cc hB3 hE3 hd3 hr3 htm;rintro e W4 (⟨v,rfl,m,hok,htm,hp⟩|⟨ch,rfl,k,hk,rfl,hno,hex⟩)
  ·refine⟨_,run_endLoop hp.rcd (by simp),?_⟩;obtain⟨U,T,X,cu,ct,cx,Gt,Gf,hmd⟩:=hp.mods;obtain⟨W5,hW5⟩:∃z,W4.putObj (W0.heap.size+6) (.loop { { r with state:=.ready,pending:=none } with state:=.exhausted })=z:=⟨_,rfl⟩;rw[hW5];have hoth:∀k,k≠W0.heap.size+6→W5.heap[k]? =W4.heap[k]? :=fun k hk=>by rw[←hW5];exact World.putObj_heap_other hk
   have GR:W5.heap.size=W4.heap.size:=by rw[←hW5];exact World.putObj_size
   have hbig:=hp.big;have uJ:=hmd.touch (q:=W0.heap.size+6) (by omega) (by omega) (by omega) (fun k _ hk=>hoth k hk);have he5:=hp.err.of_heap (hoth _ (by omega));have hd5:=(hoth (W0.heap.size+5) (by omega)).trans hp.dfr;have hl5:Below W0.heap.size W0 W5:=by rw[←hW5];exact Below.FK hp.low (by omega) _
   have hbx:=uJ.box;have x0:=hbx.at_ 0 _ rfl;have x1:=hbx.at_ 1 _ rfl;have x2:=hbx.at_ 2 _ rfl;have g0:=hbx.free 0;have g1:=hbx.free 1;have g2:=hbx.free 2;have y0:=he5.at_ 0 _ rfl;have f0:=he5.free 0;obtain⟨Gi,HE5,HD5,vT,xH⟩:=ay uJ he5 hd5 hl5 hok;clear uJ he5 hd5 hl5 hok;unfold tot at htm;clear hmd hp hbx hT2 hoth;refine yQ ?_;go_wp2;have hlo:=Gi.out.low;have hnb:¬fresh (W0.heap.size+7) W5.heap.size W0.heap.size:=fun h=>by have:=h.1;omega
   have hne:¬fresh (W0.heap.size+7) W5.heap.size (W0.heap.size+1):=fun h=>by have:=h.1;omega
   have hM5:aN W5 (fresh (W0.heap.size+7) W5.heap.size) [.slice U m.uses.length cu,.slice T m.types.length ct,.slice X m.funcs.length cx] m:=
    ⟨_,_,_,rfl,Gi.out.us.slice aY.stays (fun k hk=>hk.elim) (fun k h1 h2=>⟨h1,h2⟩) (by omega) (by omega),Gi.out.ts.slice aQ.stays (fun k hk=>⟨Gi.out.lo k (.inl hk),(Gi.out.ts.foot hk).1⟩) (fun k h1 h2=>⟨h1,h2⟩) (by omega) (by omega),Gi.out.fs.slice dF.stays (fun k hk=>⟨Gi.out.lo k (.inr hk),(Gi.out.fs.foot hk).1⟩) (fun k h1 h2=>⟨h1,h2⟩) (by omega) (by omega)⟩
   refine YS (m:=m) (U:=U) (T:=T) (X:=X) (n:=m.uses.length) (c:=cu) (p:=m.types.length) (d:=ct) (q:=m.funcs.length) (e:=cx) ?_ ?_ ?_ ?_ xH.out ?_ ?_ rfl rfl
   ·have h:=(((Gi.out.box.put 0 (.slice U m.uses.length cu)).put 1 (.slice T m.types.length ct)).put 2 (.slice X m.funcs.length cx)).far (p:=⟨W0.heap.size+1,0,none⟩) (show W0.heap.size≠W0.heap.size+1 by omega) (.int .i64 0);simpa using h
   ·have h:=(((HE5.out.far (p:=⟨W0.heap.size,0,none⟩) (show W0.heap.size+1≠W0.heap.size by omega) (.slice U m.uses.length cu)).far (p:=⟨W0.heap.size,1,none⟩) (show W0.heap.size+1≠W0.heap.size by omega) (.slice T m.types.length ct)).far (p:=⟨W0.heap.size,2,none⟩) (show W0.heap.size+1≠W0.heap.size by omega) (.slice X m.funcs.length cx)).put 0 (.int .i64 0);simpa using h
   ·exact(Below.heap_setCell _ _ _ _ (show W0.heap.size+5≠W0.heap.size+1 by omega)).trans ((Below.heap_setCell _ _ _ _ (show W0.heap.size+5≠W0.heap.size by omega)).trans ((Below.heap_setCell _ _ _ _ (show W0.heap.size+5≠W0.heap.size by omega)).trans ((Below.heap_setCell _ _ _ _ (show W0.heap.size+5≠W0.heap.size by omega)).trans HD5.out)))
   ·exact(((vT.out.setCell (p:=⟨W0.heap.size,0,none⟩) (aJ _) _).setCell (p:=⟨W0.heap.size,1,none⟩) (aJ _) _).setCell (p:=⟨W0.heap.size,2,none⟩) (aJ _) _).setCell (p:=⟨W0.heap.size+1,0,none⟩) (show W0.heap.size≤W0.heap.size+1 by omega) _
   ·simp only[size_set];exact aN.stays _ _ _ _ _ _ hM5 (fun _ h=>h) (((((Keeps.refl _ _).setCell (q:=⟨W0.heap.size,0,none⟩) hnb _).setCell (q:=⟨W0.heap.size,1,none⟩) hnb _).setCell (q:=⟨W0.heap.size,2,none⟩) hnb _).setCell (q:=⟨W0.heap.size+1,0,none⟩) hne _)
   ·exact(((Gi.out.us.set aY.stays (p:=⟨W0.heap.size,0,none⟩) (show W0.heap.size<_ by omega) (fun k hk=>hk.elim) _).set aY.stays (p:=⟨W0.heap.size,1,none⟩) (show W0.heap.size<_ by omega) (fun k hk=>hk.elim) _).set aY.stays (p:=⟨W0.heap.size,2,none⟩) (show W0.heap.size<_ by omega) (fun k hk=>hk.elim) _).set aY.stays (p:=⟨W0.heap.size+1,0,none⟩) (show W0.heap.size+1<_ by omega) (fun k hk=>hk.elim) _
  ·exact abC hex hk hno rfl rfl
end Go.Proofs.YtjaladhdnbhliaaGreatDoor
