/- Parts. -/
import Derived.Test.YtjaladhdnbhliaaGreatDoorQTreeChk3
set_option maxHeartbeats 8000000
set_option maxRecDepth 100000
namespace Go.Proofs.YtjaladhdnbhliaaGreatDoor
open Go.Proofs.Tryz
open Go.RowKit Go.Shelf
theorem wQ{n:Nat}{e E:Int}{w W:World}{tmps:Array Value}(hB:Box W n 29 #[.int .i64 0])(hn:w.heap.size≤n)(hb:Below w.heap.size w W)(ht:tmps[2]? =some (.pointer (some ⟨n,0,none⟩)))(he:e=E):
  Leaves prog Tryz.f34 tmps (fun e' w'=>e'=.returned (.int .i64 E)∧Below w.heap.size w w') [{ target:=.fn (.func 70) #[],args:= #[.pointer (some ⟨n,0,none⟩)] }] (.panicking [iU e]) W:=by
 subst he;have hc:=hB.at_ 0 _ rfl;have hlt:=hB.lt;refine leaves_cons (f:=70) (args:= #[.pointer (some ⟨n,0,none⟩)]) (by simp) (by simp[go_sem]) ?_;refine(wP ⟨n,0,none⟩ 0 e W hc (hB.free 0)).mono ?_;rintro e' u' w'' ⟨rfl,rfl,rfl⟩;have hc2:((W.alloc (.cells #[.int .i64 e] 176)).setCell ⟨n,0,none⟩ (.int .i64 e)).cell? ⟨n,0,none⟩=some (.int .i64 e):=((hB.alloc _).put 0 _).at_ 0 _ rfl;have hb2:Below w.heap.size w ((W.alloc (.cells #[.int .i64 e] 176)).setCell ⟨n,0,none⟩ (.int .i64 e)):=(hb.alloc hb.size _).setCell (p:=⟨n,0,none⟩) hn _;simp[Leaves,settle,results,results34,go_sem,ht,hc2,hb2]
theorem X8{n:Nat}{E:Int}{w W:World}{tmps:Array Value}(hB:Box W n 29 #[.int .i64 0])(hb:Below w.heap.size w W)(ht:tmps[2]? =some (.pointer (some ⟨n,0,none⟩)))(he:0=E):
  Leaves prog Tryz.f34 tmps (fun e' w'=>e'=.returned (.int .i64 E)∧Below w.heap.size w w') [{ target:=.fn (.func 70) #[],args:= #[.pointer (some ⟨n,0,none⟩)] }] .returning W:=by
 subst he;have hc:=hB.at_ 0 _ rfl;refine leaves_cons (f:=70) (args:= #[.pointer (some ⟨n,0,none⟩)]) (by simp) (by simp[go_sem]) ?_;refine(Ii ⟨n,0,none⟩ W).mono ?_;rintro e' u' w'' ⟨rfl,rfl,rfl⟩;simp[Leaves,settle,results,results34,go_sem,ht,hc,hb]
theorem dF.cells{w:World}{F:aV}{cs:List Value}{x:Func}(h:dF w F cs x):∃P1 p1 A2 n2 A3 n3,cs= [.string x.name,.string x.dH,.slice P1 x.params.length p1,.int .i64 x.result.kind,.string x.result.bT,.string x.result.name,.slice A2 x.result.args.length n2,
  .int .i64 x.body.kind,.int .i64 x.body.n,.string x.body.bT,.string x.body.s,.slice A3 x.body.args.length n3]:=by
 obtain⟨P1,p1,a,b,c,d,e,f,g,i,j,rfl,_,_,_,h1,h2⟩:=dF.form h;obtain⟨A2,n2,hf⟩:=iD.form h1;obtain⟨A3,n3,hg⟩:=dN.form h2;simp only[List.cons.injEq,and_true]at hf hg;obtain⟨rfl,rfl,rfl,rfl⟩:=hf;obtain⟨rfl,rfl,rfl,rfl,rfl⟩:=hg;exact⟨_,_,_,_,_,_,rfl⟩
theorem Oo(m:Module)(cs:List Value)(F:aV)(w:World)(hF:∀k,F k→k<w.heap.size)(hm:aN w F cs m):
  Calls prog 34 #[.agg cs.toArray] w fun e w'=>e=.returned (.int .i64 (dD m))∧Below w.heap.size w w':=by
 obtain⟨U1,u1,T1,e1,T2,e2,rfl,hu,ht,hf⟩:=aN.form hm;obtain⟨_,_,_,_,_,hul,_⟩:=hu.form;obtain⟨_,_,_,_,_,htl,_⟩:=ht.form;obtain⟨_,_,_,_,_,hfl,_⟩:=hf.form;obtain⟨E,hE⟩:∃E,dD m=E:=⟨_,rfl⟩;rw[hE];obtain⟨HE,HU,HT,HFn⟩:=au hE hu ht hf;clear hE hu ht hf;clear hm
 go_enter_defers func34,ntmps34
 go_upto_region 2 with fail
 have dX:=((Box.made w 27 #[.slice U1 m.uses.length u1,.slice T1 m.types.length e1,.slice T2 m.funcs.length e2]).alloc (.cells #[.int .i64 0] 29));have dM:=(Box.made (w.alloc (.cells #[.slice U1 m.uses.length u1,.slice T1 m.types.length e1,.slice T2 m.funcs.length e2] 27)) 29 #[.int .i64 0]);rw[show(w.alloc (.cells #[.slice U1 m.uses.length u1,.slice T1 m.types.length e1,.slice T2 m.funcs.length e2] 27)).heap.size=w.heap.size+1 by simp only[World.size_alloc]]at dM;have hbb:Below w.heap.size w ((w.alloc (.cells #[.slice U1 m.uses.length u1,.slice T1 m.types.length e1,.slice T2 m.funcs.length e2] 27)).alloc (.cells #[.int .i64 0] 29)):=by go_grown
 have hzb:((w.alloc (.cells #[.slice U1 m.uses.length u1,.slice T1 m.types.length e1,.slice T2 m.funcs.length e2] 27)).alloc (.cells #[.int .i64 0] 29)).heap.size=w.heap.size+1+1:=by simp only[World.size_alloc]
 generalize(w.alloc (.cells #[.slice U1 m.uses.length u1,.slice T1 m.types.length e1,.slice T2 m.funcs.length e2] 27)).alloc (.cells #[.int .i64 0] 29)=W1 at dX dM hbb hzb⊢;have x0:=dX.at_ 0 _ rfl;have x1:=dX.at_ 1 _ rfl;have x2:=dX.at_ 2 _ rfl;have hn:w.heap.size≤w.heap.size+1:=by omega
 obtain⟨HB,HC,Hb0,Hz,HN⟩:=ay dX dM hbb hzb hn;clear dX dM hbb hzb hn
 by_cases ng:24<m.uses.length+m.types.length+m.funcs.length
 ·have KL:((m.uses.length:Int)+(m.types.length:Int)+(m.funcs.length:Int)≤24)=False:=by simp;omega
  go_wp2_with(first|(go_at_call 71;(with_reducible refine(bF _ _).mono ?_);rintro e w' ⟨rfl,rfl⟩)|(go_at_call 71;(with_reducible refine(bQ _ _).mono ?_);rintro e w' ⟨rfl,rfl⟩));exact wQ HC.out HN.out Hb0.out rfl (by rw[←HE.out];unfold dD;rw[if_pos ng])
 ·have KL:((m.uses.length:Int)+(m.types.length:Int)+(m.funcs.length:Int)≤24):=by omega
  have rG:=ah ng;go_wp2_with(first|(go_at_call 71;(with_reducible refine(bF _ _).mono ?_);rintro e w' ⟨rfl,rfl⟩)|(go_at_call 71;(with_reducible refine(bQ _ _).mono ?_);rintro e w' ⟨rfl,rfl⟩));go_loopg [4,25] m.uses.length (fun gg _ s25 wr=>∃kk:Nat,kk≤m.uses.length∧m.uses.length-kk≤gg∧s25=.int .i64 kk∧Aside (Below W1.heap.size W1 wr)∧Aside (∀j,j<kk→∀y,m.uses[j]? =some y→qJ y=0))
  case atStart=>exact⟨0,Nat.zero_le _,by omega,rfl,Below.refl _ _,aside (fun j hj=>absurd hj (Nat.not_lt_zero _))⟩
  case round=>
   obtain⟨kk,hkk,hg,rfl,BW,Al⟩:=hrel;have hbw:=Hb0.out.trans (BW.out.mono Hb0.out.size)
   by_cases hlt:kk<m.uses.length
   ·have hltz:(kk:Int)<(m.uses.length:Int):=by omega
    obtain⟨b1,off,cs,rfl,jc,hcs,⟨rfl,hsz⟩,hcell⟩:=(HU.out.up aY.stays hF hbw).at_ hlt;have hc0:=hcell 0 _ rfl;simp only[Nat.mul_one,Nat.add_zero]at hc0;have hy:=aK hlt;generalize m.uses[kk]=y at*;have hym:=fun W=>iV y W hsz
    obtain⟨z5,GR⟩:∃z,(aX y)=z:=⟨_,rfl⟩;rw[GR]at hym;have Z5:=Lib.hid GR;clear GR;have hbl:=bg hF hbw _ jc;obtain⟨HY,Zx,cO⟩:=ak hy hym hbw;clear hy hym hbw;clear hcell hcs;go_wp2_with fail;refine(Zx.out _).mono ?_;rintro e W4 ⟨rfl,hb4⟩;have HB4:=Lib.hid (BW.out.trans (hb4.mono BW.out.size));have kG:=Lib.hid (cO.out.trans (hb4.mono cO.out.size));clear hb4 hc0;cases z5 with
    |false=>
     go_wp2_with(first|(go_at_call 71;(with_reducible refine(bF _ _).mono ?_);rintro e w' ⟨rfl,rfl⟩)|(go_at_call 71;(with_reducible refine(bQ _ _).mono ?_);rintro e w' ⟨rfl,rfl⟩));exact wQ (HC.out.later HB4.out HC.out.lt) HN.out kG.out rfl (by rw[←HE.out,IC rG.out (eP HY.out (Qu Z5.out) (by decide) Al.out) (by decide)])
    |true=>
     go_wp2_with(first|(go_at_call 71;(with_reducible refine(bF _ _).mono ?_);rintro e w' ⟨rfl,rfl⟩)|(go_at_call 71;(with_reducible refine(bQ _ _).mono ?_);rintro e w' ⟨rfl,rfl⟩));go_roundg (m.uses.length-(kk+1))
     case measure=>omega
     case rel=>exact⟨kk+1,by omega,by omega,by go_num,aside HB4.out,aside (fO HY.out (Qv Z5.out) Al.out)⟩
   ·have hltz:¬(kk:Int)<(m.uses.length:Int):=by omega
    obtain rfl:kk=m.uses.length:=by omega
    have HU0:=Lib.hid (fM Al.out);obtain⟨V,rfl⟩:∃W,W=wr:=⟨_,rfl⟩;have hB1:=HB.out.later BW.out HB.out.lt;have hC1:=HC.out.later BW.out HC.out.lt;clear x0 x1 x2 Al;have x1:=hB1.at_ 1 _ rfl;obtain⟨HB1,Jb,HBV⟩:=ak hB1 hC1 hbw;clear hB1 hC1 hbw;go_wp2_with fail;go_loopg [36] m.types.length (fun gg s36 wr=>∃kk:Nat,kk≤m.types.length∧m.types.length-kk≤gg∧s36=.int .i64 kk∧Aside (Below V.heap.size V wr)∧Aside (∀j,j<kk→∀y,m.types[j]? =some y→fZ y=0))
    case atStart=>exact⟨0,Nat.zero_le _,by omega,rfl,Below.refl _ _,aside (fun j hj=>absurd hj (Nat.not_lt_zero _))⟩
    case round=>
     clear BW;obtain⟨kk,hkk,hg,rfl,BW,Al⟩:=hrel;have hbw:=HBV.out.trans (BW.out.mono HBV.out.size)
     by_cases hlt:kk<m.types.length
     ·have hltz:(kk:Int)<(m.types.length:Int):=by omega
      obtain⟨b1,off,cs,rfl,jc,hcs,hr1,hcell⟩:=(HT.out.up aQ.stays hF hbw).at_ hlt;have hy:=aK hlt;generalize m.types[kk]=y at*;obtain⟨c1,c2,c3,c4,rfl,hyn,hyt⟩:=aQ.form hr1;obtain⟨A2,n2,hfm⟩:=iD.form hyt;simp only[List.cons.injEq,and_true]at hfm;obtain⟨rfl,rfl,rfl,rfl⟩:=hfm;have hc0:=hcell 0 _ rfl;have hc1:=hcell 1 _ rfl;have hc2:=hcell 2 _ rfl;have hc3:=hcell 3 _ rfl;have hc4:=hcell 4 _ rfl;simp only[Nat.add_zero]at hc0;have Lj:=fun U (hU:Below wr.heap.size wr U)=>Ls 10 y.dV 1 _ F U (by omega) (by omega) (iD.stays.later hyt hU (bg hF hbw)) (bg (bg hF hbw) hU)
      have hym:=fun W=>iV y.name W hyn
      obtain⟨z5,GR⟩:∃z,(aX y.name)=z:=⟨_,rfl⟩;rw[GR]at hym;have Z5:=Lib.hid GR;clear GR;obtain⟨z6,ET⟩:∃z,(dn 10 y.dV)=z:=⟨_,rfl⟩;rw[ET]at Lj;have Z6:=Lib.hid ET;clear ET;have hbl:=bg hF hbw _ jc;obtain⟨HY,uZ,Zx,BO⟩:=au hy Lj hym hbw;clear hy Lj hym hbw;clear hcell hr1 hyt hcs x1;go_upto_region 11 with fail
      have yT:=Box.made wr 78 #[.string y.name,.int .i64 y.dV.kind,.string y.dV.bT,.string y.dV.name,.slice A2 y.dV.args.length n2];have hbf:Below wr.heap.size wr (wr.alloc (.cells #[.string y.name,.int .i64 y.dV.kind,.string y.dV.bT,.string y.dV.name,.slice A2 y.dV.args.length n2] 78)):=by go_grown
      have Jk:(wr.alloc (.cells #[.string y.name,.int .i64 y.dV.kind,.string y.dV.bT,.string y.dV.name,.slice A2 y.dV.args.length n2] 78)).heap.size=wr.heap.size+1:=by simp
      generalize wr.alloc (.cells #[.string y.name,.int .i64 y.dV.kind,.string y.dV.bT,.string y.dV.name,.slice A2 y.dV.args.length n2] 78)=W3 at yT hbf Jk⊢;have n0:=yT.at_ 0 _ rfl;go_wp2_with fail;refine(Zx.out _).mono ?_;rintro e W4 ⟨rfl,hb4⟩;have hB4:=yT.later hb4 yT.lt;clear n0 hc0 hc1 hc2 hc3 hc4;have n1:=hB4.at_ 1 _ rfl;have n2:=hB4.at_ 2 _ rfl;have n3:=hB4.at_ 3 _ rfl;have n4:=hB4.at_ 4 _ rfl;have hb5:=hbf.trans (hb4.mono hbf.size);obtain⟨HB4,kG⟩:=aj hB4 hb5;clear hB4 hb5;clear yT hbf Jk hb4;cases z5 with
      |false=>
       go_wp2_with(first|(go_at_call 71;(with_reducible refine(bF _ _).mono ?_);rintro e w' ⟨rfl,rfl⟩)|(go_at_call 71;(with_reducible refine(bQ _ _).mono ?_);rintro e w' ⟨rfl,rfl⟩));exact wQ (Jb.out.later (BW.out.trans (kG.out.mono BW.out.size)) Jb.out.lt) HN.out (BO.out.trans (kG.out.mono BO.out.size)) rfl (by rw[←HE.out,sV rG.out HU0.out (eP HY.out (qO Z5.out) (by decide) Al.out) (by decide)])
      |true=>
       go_wp2_with(first|(go_at_call 71;(with_reducible refine(bF _ _).mono ?_);rintro e w' ⟨rfl,rfl⟩)|(go_at_call 71;(with_reducible refine(bQ _ _).mono ?_);rintro e w' ⟨rfl,rfl⟩));refine(uZ.out _ kG.out).mono ?_;rintro e W5 ⟨rfl,hb6⟩;have kH:=Lib.hid (kG.out.trans (hb6.mono kG.out.size));clear hb6
       by_cases hz0:z6=0
       ·subst hz0;rw[lZ];go_wp2_with fail;go_roundg (m.types.length-(kk+1))
        case measure=>omega
        case rel=>exact⟨kk+1,by omega,by omega,by go_num,aside (BW.out.trans (kH.out.mono BW.out.size)),aside (fO HY.out (jr Z5.out Z6.out) Al.out)⟩
       ·rw[iK hz0];go_wp2_with fail;exact wQ (Jb.out.later (BW.out.trans (kH.out.mono BW.out.size)) Jb.out.lt) HN.out (BO.out.trans (kH.out.mono BO.out.size)) rfl (by rw[←HE.out,sV rG.out HU0.out (eP HY.out (jr Z5.out Z6.out) hz0 Al.out) hz0])
     ·have hltz:¬(kk:Int)<(m.types.length:Int):=by omega
      obtain rfl:kk=m.types.length:=by omega
      have HT0:=Lib.hid (fM Al.out);obtain⟨V2,rfl⟩:∃W,W=wr:=⟨_,rfl⟩;have hB2:=HB1.out.later BW.out HB1.out.lt;have hC2:=Jb.out.later BW.out Jb.out.lt;clear x1 Al;have x2:=hB2.at_ 2 _ rfl;obtain⟨HB2,HC2,aat⟩:=ak hB2 hC2 hbw;clear hB2 hC2 hbw;go_wp2_with fail;go_loopg [51] m.funcs.length (fun gg s51 wr=>∃kk:Nat,kk≤m.funcs.length∧m.funcs.length-kk≤gg∧s51=.int .i64 kk∧Aside (Below V2.heap.size V2 wr)∧Aside (∀j,j<kk→∀y,m.funcs[j]? =some y→jg y=0))
      case atStart=>exact⟨0,Nat.zero_le _,by omega,rfl,Below.refl _ _,aside (fun j hj=>absurd hj (Nat.not_lt_zero _))⟩
      case round=>
       clear BW;obtain⟨kk,hkk,hg,rfl,BW,Al⟩:=hrel;have hbw:=aat.out.trans (BW.out.mono aat.out.size)
       by_cases hlt:kk<m.funcs.length
       ·have hltz:(kk:Int)<(m.funcs.length:Int):=by omega
        obtain⟨b1,off,cs,rfl,jc,hcs,hr1,hcell⟩:=(HFn.out.up dF.stays hF hbw).at_ hlt;have hy:=aK hlt;generalize m.funcs[kk]=y at*;have Lj:=fun U (hU:Below wr.heap.size wr U)=>afh y cs F U (bg (bg hF hbw) hU) (dF.stays.later hr1 hU (bg hF hbw))
        obtain⟨P1,p1,A2,n2,A3,n3,rfl⟩:=dF.cells hr1;have hc0:=hcell 0 _ rfl;have hc1:=hcell 1 _ rfl;have hc2:=hcell 2 _ rfl;have hc3:=hcell 3 _ rfl;have hc4:=hcell 4 _ rfl;have hc5:=hcell 5 _ rfl;have hc6:=hcell 6 _ rfl;have QT:=hcell 7 _ rfl;have hc8:=hcell 8 _ rfl;have QU:=hcell 9 _ rfl;have xZ:=hcell 10 _ rfl;have yc:=hcell 11 _ rfl;simp only[Nat.add_zero]at hc0;obtain⟨z6,ET⟩:∃z,(jg y)=z:=⟨_,rfl⟩;rw[ET]at Lj;have Z6:=Lib.hid ET;clear ET;have hbl:=bg hF hbw _ jc;obtain⟨HY,uZ,BO⟩:=ak hy Lj hbw;clear hy Lj hbw;clear hcell hr1 hcs x2;go_upto_region 17 with fail
        have yT:=Box.made wr 83 #[.string y.name,.string y.dH,.slice P1 y.params.length p1,.int .i64 y.result.kind,.string y.result.bT,.string y.result.name,.slice A2 y.result.args.length n2,.int .i64 y.body.kind,.int .i64 y.body.n,.string y.body.bT,.string y.body.s,.slice A3 y.body.args.length n3];have hbf:Below wr.heap.size wr (wr.alloc (.cells #[.string y.name,.string y.dH,.slice P1 y.params.length p1,.int .i64 y.result.kind,.string y.result.bT,.string y.result.name,.slice A2 y.result.args.length n2,.int .i64 y.body.kind,.int .i64 y.body.n,.string y.body.bT,.string y.body.s,.slice A3 y.body.args.length n3] 83)):=by go_grown
        have Jk:(wr.alloc (.cells #[.string y.name,.string y.dH,.slice P1 y.params.length p1,.int .i64 y.result.kind,.string y.result.bT,.string y.result.name,.slice A2 y.result.args.length n2,.int .i64 y.body.kind,.int .i64 y.body.n,.string y.body.bT,.string y.body.s,.slice A3 y.body.args.length n3] 83)).heap.size=wr.heap.size+1:=by simp
        generalize wr.alloc (.cells #[.string y.name,.string y.dH,.slice P1 y.params.length p1,.int .i64 y.result.kind,.string y.result.bT,.string y.result.name,.slice A2 y.result.args.length n2,.int .i64 y.body.kind,.int .i64 y.body.n,.string y.body.bT,.string y.body.s,.slice A3 y.body.args.length n3] 83)=W3 at yT hbf Jk⊢;have n0:=yT.at_ 0 _ rfl;have n1:=yT.at_ 1 _ rfl;have n2:=yT.at_ 2 _ rfl;have n3:=yT.at_ 3 _ rfl;have n4:=yT.at_ 4 _ rfl;have n5:=yT.at_ 5 _ rfl;have n6:=yT.at_ 6 _ rfl;have n7:=yT.at_ 7 _ rfl;have n8:=yT.at_ 8 _ rfl;have n9:=yT.at_ 9 _ rfl;have n10:=yT.at_ 10 _ rfl;have n11:=yT.at_ 11 _ rfl;have HBf:=ah hbf;clear hbf;clear yT Jk hc0 hc1 hc2 hc3 hc4 hc5 hc6 QT hc8 QU xZ yc;go_wp2_with fail;refine(uZ.out _ HBf.out).mono ?_;rintro e W5 ⟨rfl,hb6⟩;have kH:=Lib.hid (HBf.out.trans (hb6.mono HBf.out.size));clear hb6
        by_cases hz0:z6=0
        ·subst hz0;rw[lZ];go_wp2_with fail;go_roundg (m.funcs.length-(kk+1))
         case measure=>omega
         case rel=>exact⟨kk+1,by omega,by omega,by go_num,aside (BW.out.trans (kH.out.mono BW.out.size)),aside (fO HY.out Z6.out Al.out)⟩
        ·rw[iK hz0];go_wp2_with fail;exact wQ (HC2.out.later (BW.out.trans (kH.out.mono BW.out.size)) HC2.out.lt) HN.out (BO.out.trans (kH.out.mono BO.out.size)) rfl (by rw[←HE.out,sU rG.out HU0.out HT0.out (eP HY.out Z6.out hz0 Al.out)])
       ·have hltz:¬(kk:Int)<(m.funcs.length:Int):=by omega
        obtain rfl:kk=m.funcs.length:=by omega
        have hC3:=HC2.out.later BW.out HC2.out.lt;have q0:=hC3.at_ 0 _ rfl;have q1:=hC3.free 0;obtain⟨HC3,BO⟩:=aj hC3 hbw;clear hC3 hbw;go_wp2_with fail;have h0:=(HC3.out.put 0 (.int .i64 0));exact X8 h0 (BO.out.setCell (p:=⟨w.heap.size+1,0,none⟩) HN.out _) rfl (by rw[←HE.out,sU rG.out HU0.out HT0.out (fM Al.out)])
end Go.Proofs.YtjaladhdnbhliaaGreatDoor
