/- Parts. -/
import Derived.Test.YtjaladhdnbhliaaGreatDoorQPuts
set_option maxHeartbeats 8000000
set_option maxRecDepth 100000
namespace Go.Proofs.YtjaladhdnbhliaaGreatDoor
open Go.Proofs.Tryz
open Go.RowKit Go.Shelf
theorem Ro(x:Known):eY x=if aX x.name=true∧aP x.dV=0∧gG x.dV=false then 0 else 4:=by
 unfold eY
 by_cases h:aX x.name=true∧aP x.dV=0∧gG x.dV=false
 ·rw[if_pos h];simp[h.1,h.2.1,h.2.2]
 ·rw[if_neg h]
  by_cases h1:aX x.name=true<;>by_cases h2:aP x.dV=0<;>by_cases h3:gG x.dV=false<;>simp_all
theorem Y8(x:kR):kP x=if aX x.name=true∧x.params.length≤8∧aP x.result=0∧x.params.any jE=false then 0 else 4:=by
 unfold kP
 by_cases h:aX x.name=true∧x.params.length≤8∧aP x.result=0∧x.params.any jE=false
 ·rw[if_pos h,h.1,h.2.2.2];simp[h.2.1,h.2.2.1]
 ·rw[if_neg h];cases h1:aX x.name<;>by_cases h2:aP x.result=0<;>cases h3:x.params.any jE<;>by_cases h4:x.params.length≤8<;>simp_all
theorem X7(s:ByteArray)(w:World)(hs:s.size≤140737488355328):Calls prog 65 #[.string s] w fun e w'=>e=.returned (.bool (jE s))∧w=w':=by
 have hk:=fun W=>dU s W hs
 unfold jE;generalize aP s=z at hk⊢;have HK:=ah hk;clear hk;go_enter func65,ntmps65;go_wp2_with fail;refine(HK.out _).mono ?_;rintro e w' ⟨rfl,rfl⟩;go_wp2_with fail;go_ret;exact⟨dw (by rw[Bool.eq_iff_iff];simp),rfl⟩
theorem NS(a:gU)(cs:List Value)(F:aV)(w:World)(hF:∀k,F k→k<w.heap.size)(ha:bD w F cs a):
  Calls prog 28 #[.agg cs.toArray] w fun e w'=>e=.returned (.int .i64 (fF a))∧Below w.heap.size w w':=by
 obtain⟨tv,fv,rfl,ht,hf⟩:=ha;obtain⟨A1,c1,rfl,_,_,hl1,_⟩:=ht.form;obtain⟨A3,c3,rfl,_,_,hl3,_⟩:=hf.form;obtain⟨E,hE⟩:∃z,(fF a)=z:=⟨_,rfl⟩;rw[hE]at⊢;have HE:=Lib.hid hE;clear hE
 by_cases ng:24<a.types.length+a.funcs.length
 ·have KL:(24:Int)<(a.types.length:Int)+(a.funcs.length:Int):=by omega
  obtain rfl:E=1:=by rw[←HE.out];simp[fF,ng]
  go_enter func28,ntmps28;go_wp2;go_ret;exact⟨rfl,by go_grown⟩
 ·have KL:¬(24:Int)<(a.types.length:Int)+(a.funcs.length:Int):=by omega
  obtain⟨rG,HT,HFn⟩:=ak ng ht hf;clear ng ht hf;go_enter func28,ntmps28;go_wp2_with fail;have hBa:=Box.made w 42 #[.slice A1 a.types.length c1,.slice A3 a.funcs.length c3];have hba:Below w.heap.size w (w.alloc (.cells #[.slice A1 a.types.length c1,.slice A3 a.funcs.length c3] 42)):=by go_grown
  have hza:(w.alloc (.cells #[.slice A1 a.types.length c1,.slice A3 a.funcs.length c3] 42)).heap.size=w.heap.size+1:=by simp
  generalize w.alloc (.cells #[.slice A1 a.types.length c1,.slice A3 a.funcs.length c3] 42)=W1 at hBa hba hza⊢;obtain⟨HB,Hb0,Hz0⟩:=ak hBa hba hza;clear hBa hba hza;go_loopg [3,18] a.types.length (fun gg _ s18 wr=>∃kk:Nat,kk≤a.types.length∧a.types.length-kk≤gg∧s18=.int .i64 kk∧Aside (Below W1.heap.size W1 wr)∧Aside (∀j,j<kk→dQ Known.name eY a.types j=0))
  case atStart=>exact⟨0,Nat.zero_le _,by omega,rfl,Below.refl _ _,aside (fun j hj=>absurd hj (Nat.not_lt_zero _))⟩
  case round=>
   obtain⟨kk,hkk,hg,rfl,BW,Al⟩:=hrel;have hB1:=HB.out.later BW.out HB.out.lt;have hbw:=Hb0.out.trans (BW.out.mono Hb0.out.size);have fa0:=hB1.at_ 0 _ rfl;have fa1:=hB1.at_ 1 _ rfl
   by_cases hlt:kk<a.types.length
   ·have hltz:(kk:Int)<(a.types.length:Int):=by omega
    have hat:=HT.out.up aW.stays hF hbw;obtain⟨b1,off,cs,rfl,hb,hcs,⟨rfl,hn,hi⟩,hcell⟩:=hat.at_ hlt;have hc0:=hcell 0 _ rfl;have hc1:=hcell 1 _ rfl;simp only[Nat.add_zero]at hc0;have hx:=aK hlt;generalize a.types[kk]=x at*;have hnm:=fun W=>iV x.name W hn
    have Yt:=fun W=>dU x.dV W hi
    have hop:=fun W=>yu x.dV W
    have hkb:=Ro x;obtain⟨z1,hz1⟩:∃z,(aX x.name)=z:=⟨_,rfl⟩;rw[hz1]at hnm hkb;have Z1:=Lib.hid hz1;clear hz1;obtain⟨z2,hz2⟩:∃z,(aP x.dV)=z:=⟨_,rfl⟩;rw[hz2]at Yt hkb;have Z2:=Lib.hid hz2;clear hz2;obtain⟨z3,hz3⟩:∃z,(gG x.dV)=z:=⟨_,rfl⟩;rw[hz3]at hop hkb;have Z3:=Lib.hid hz3;clear hz3;have hwl:=bg hF hbw _ hb;obtain⟨HX,HN,HK,HO,HKB,HAT,cO,HB1⟩:=aC hx hnm Yt hop hkb hat hbw hB1;clear hx hnm Yt hop hkb hat hbw hB1;clear hcell hcs;go_upto_region 6 with fail
    have hBb:=Box.made wr 100 #[.string x.name,.string x.dV];have hbb:Below wr.heap.size wr (wr.alloc (.cells #[.string x.name,.string x.dV] 100)):=by go_grown
    have hzb:(wr.alloc (.cells #[.string x.name,.string x.dV] 100)).heap.size=wr.heap.size+1:=by simp
    generalize wr.alloc (.cells #[.string x.name,.string x.dV] 100)=W2 at hBb hbb hzb⊢;have n0:=hBb.at_ 0 _ rfl;obtain⟨HBb,Hbb,Hzb⟩:=ak hBb hbb hzb;clear hBb hbb hzb;go_cut [37] (fun s37 wc=>∃z:Bool,s37=.bool z∧Aside (Below W2.heap.size W2 wc)∧Aside (eY x=if z then 4 else 0))
    case first=>
     clear hc0 hc1 fa0 fa1;go_wp2_with fail;refine(HN.out _).mono ?_;rintro e W3 ⟨rfl,hb3⟩;have hB3:=HBb.out.later hb3 HBb.out.lt;have m1:=hB3.at_ 1 _ rfl;have HB3:=ah hb3;clear hB3 hb3 n0;have hkb:=HKB.out;cases z1
     ·go_wp2_with fail;go_meet;exact⟨_,rfl,aside HB3.out,aside (by rw[hkb];simp)⟩
     ·by_cases hz:z2=0
      ·subst hz;cases z3;all_goals
        go_wp2_with(first|(go_at_call 62;refine(HK.out _).mono ?_;rintro e w' ⟨rfl,rfl⟩)|(go_at_call 63;refine(HO.out _).mono ?_;rintro e w' ⟨rfl,rfl⟩));go_meet;exact⟨_,rfl,aside HB3.out,aside (by rw[hkb];simp)⟩
      ·have hzn:(z2 !=0)=true:=by simp[hz]
       go_wp2_with(first|(go_at_call 62;refine(HK.out _).mono ?_;rintro e w' ⟨rfl,rfl⟩)|(go_at_call 63;refine(HO.out _).mono ?_;rintro e w' ⟨rfl,rfl⟩));go_meet;exact⟨_,rfl,aside HB3.out,aside (by rw[hkb];simp[hz])⟩
    case rest=>
    obtain⟨z,rfl,hb3,hkz⟩:=hcut;obtain⟨W4,rfl⟩:∃W,W=wc:=⟨_,rfl⟩;have hb4:=Hbb.out.trans (hb3.out.mono Hbb.out.size);have HBx:=Lib.hid (cO.out.trans (hb4.mono cO.out.size));clear n0 fa0 fa1;cases z with
    |true=>
     go_wp2_with fail;go_ret;exact⟨dh (by rw[←HE.out];exact(lH rG.out (nI hlt Al.out (gW HX.out hkz.out (by decide)) (by decide)) (by decide)).symm),HBx.out⟩
    |false=>
    have hB4:=HB1.out.later hb4 HB1.out.lt;have hb5:=HBb.out.later hb3.out HBb.out.lt;have fb0:=hB4.at_ 0 _ rfl;have n0:=hb5.at_ 0 _ rfl;have HTW:=Lib.hid (HT.out.up aW.stays hF HBx.out);have HG:=Lib.hid (show eY x=0 from hkz.out);have HB4:=ah hb4;clear hB4 hb5 hb4 hkz;go_upto_region 8 with fail
    go_cut [51] (fun s51 wc=>∃z:Bool,s51=.bool z∧Aside (Below W4.heap.size W4 wc)∧Aside (dQ Known.name eY a.types kk=if z then 7 else 0))
    case first=>
     by_cases h0:0<kk
     ·have h0z:(0:Int)<(kk:Int):=by omega
      obtain⟨b2,off2,cs2,e2,hb2,_,⟨rfl,_⟩,hcell2⟩:=(HTW.out.at_ (k:=kk-1) (by omega));injection e2 with e2
      injection e2 with e2 e3 _
      subst e2;subst e3;have hd0:=hcell2 0 _ rfl;simp only[Nat.add_zero]at hd0;have hy:=aK (show kk-1<a.types.length by omega);generalize a.types[kk-1]=y at*;have HY:=ah hy;have HI:=Lib.hid (jS (name:=Known.name) (bad:=eY) h0 HX.out HY.out HG.out);have hi1:IntKind.i64.wrap ((kk:Int)-1)=(kk:Int)-1:=IntWalk.i64_in _ (by omega);have hi2:(0:Int)≤(kk:Int)-1:=by omega
      have hi3:((kk:Int)-1).toNat=kk-1:=by omega
      have hi4:(kk:Int)-1<(a.types.length:Int):=by omega
      clear hcell2 hy;cases hq:nT y.name x.name;all_goals
       have HQ:=ah hq;have hless:Op.bytesLess y.name.toList x.name.toList=_:=hq;clear hq;go_wp2_with fail;go_quiet(fail);go_wp2_with fail;go_meet;exact⟨_,rfl,aside (below_drewN (Below.refl _ _) _),aside (by rw[HI.out,HQ.out];rfl)⟩
     ·have h0z:decide ((0:Int)<(kk:Int))=false:=decide_eq_false (by omega);have HI:=Lib.hid (show dQ Known.name eY a.types kk=0 by
       have e:kk=0:=by omega
       have h:=HX.out;rw[e]at h⊢;exact jv h HG.out)
      go_wp2_with fail;go_quiet(fail);go_wp2_with fail;go_meet;exact⟨_,rfl,aside (below_drewN (Below.refl _ _) _),aside (by rw[HI.out];rfl)⟩
    case rest=>
    obtain⟨z,rfl,hb5,hiz⟩:=hcut;obtain⟨W5,rfl⟩:∃W,W=wc:=⟨_,rfl⟩;have HBy:=Lib.hid (HBx.out.trans (hb5.out.mono HBx.out.size));have hb6:=HB4.out.trans (hb5.out.mono HB4.out.size);cases z with
    |true=>
     go_wp2_with fail;go_ret;exact⟨dh (by rw[←HE.out];exact(lH rG.out (nI hlt Al.out hiz.out (by decide)) (by decide)).symm),HBy.out⟩
    |false=>
     have kH:=Lib.hid (BW.out.trans (hb6.mono BW.out.size));clear hb6;go_wp2_with fail;go_roundg (a.types.length-(kk+1))
     case measure=>omega
     case rel=>exact⟨kk+1,by omega,by omega,by go_num,kH.out,aside (jG Al.out hiz.out)⟩
   ·have hltz:¬(kk:Int)<(a.types.length:Int):=by omega
    obtain rfl:kk=a.types.length:=by omega
    have HT0:=Lib.hid (show pV a.types=0 from fK Al.out);obtain⟨W2,rfl⟩:∃W2,W2=wr:=⟨_,rfl⟩;obtain⟨HB2,Hb2⟩:=aj hB1 hbw;clear hB1 hbw;clear Al;go_wp2_with fail;go_loopg [5,56] a.funcs.length (fun gg _ s56 wr=>∃kk:Nat,kk≤a.funcs.length∧a.funcs.length-kk≤gg∧s56=.int .i64 kk∧Aside (Below W2.heap.size W2 wr)∧Aside (∀j,j<kk→dQ kR.name kP a.funcs j=0))
    case atStart=>exact⟨0,Nat.zero_le _,by omega,rfl,Below.refl _ _,aside (fun j hj=>absurd hj (Nat.not_lt_zero _))⟩
    case round=>
     clear fa0 fa1;obtain⟨kk,hkk,hg,rfl,BW,Al⟩:=hrel;have hB1:=HB2.out.later BW.out HB2.out.lt;have hbw:=Hb2.out.trans (BW.out.mono Hb2.out.size);have fa1:=hB1.at_ 1 _ rfl
     by_cases hlt:kk<a.funcs.length
     ·have hltz:(kk:Int)<(a.funcs.length:Int):=by omega
      have hat:=HFn.out.up fB.stays hF hbw;obtain⟨b1,off,cs,rfl,hb,hcs,⟨pv,rfl,hn,hi,hpv⟩,hcell⟩:=hat.at_ hlt;have hc0:=hcell 0 _ rfl;have hc1:=hcell 1 _ rfl;have hc2:=hcell 2 _ rfl;simp only[Nat.add_zero]at hc0;have hFr:=bg hF hbw;have hx:=aK hlt;generalize a.funcs[kk]=x at*;have hcf:=fun(U:World) (hU:Below wr.heap.size wr U)=>vF pv x.params F 65 #[] jE U (enters_of func65 (by kernel_rfl) rfl) (bg hFr hU) (hpv.up aY.stays hFr hU)
       (fun W x cs _ _ hx=>by obtain⟨rfl,hs⟩:=hx;exact(X7 x W hs).mono fun _ _ h=>⟨h.1,h.2▸Below.refl _ _⟩)
      obtain⟨P1,p1,rfl,_,_,hpl,_⟩:=hpv.form;have hnm:=fun W=>iV x.name W hn
      have Yt:=fun W=>dU x.result W hi
      have hkb:=Y8 x;obtain⟨z1,hz1⟩:∃z,(aX x.name)=z:=⟨_,rfl⟩;rw[hz1]at hnm hkb;have Z1:=Lib.hid hz1;clear hz1;obtain⟨z2,hz2⟩:∃z,(aP x.result)=z:=⟨_,rfl⟩;rw[hz2]at Yt hkb;have Z2:=Lib.hid hz2;clear hz2;obtain⟨z3,hz3⟩:∃z,(x.params.any jE)=z:=⟨_,rfl⟩;rw[hz3]at hcf hkb;have Z3:=Lib.hid hz3;clear hz3;obtain⟨HX,HN,HK,HO,HKB,HAT,cO,HB1⟩:=aC hx hnm Yt hcf hkb hat hbw hB1;clear hx hnm Yt hcf hkb hat hbw hB1;clear hcell hcs hpv hFr;go_upto_region 14 with fail
      have hBb:=Box.made wr 62 #[.string x.name,.slice P1 x.params.length p1,.string x.result];have hbb:Below wr.heap.size wr (wr.alloc (.cells #[.string x.name,.slice P1 x.params.length p1,.string x.result] 62)):=by go_grown
      have hzb:(wr.alloc (.cells #[.string x.name,.slice P1 x.params.length p1,.string x.result] 62)).heap.size=wr.heap.size+1:=by simp
      generalize wr.alloc (.cells #[.string x.name,.slice P1 x.params.length p1,.string x.result] 62)=W3 at hBb hbb hzb⊢;have n0:=hBb.at_ 0 _ rfl;obtain⟨HBb,Hbb,Hzb⟩:=ak hBb hbb hzb;clear hBb hbb hzb;go_cut [81] (fun s81 wc=>∃z:Bool,s81=.bool z∧Aside (Below W3.heap.size W3 wc)∧Aside (kP x=if z then 4 else 0))
      case first=>
       clear hc0 hc1 hc2 fa1;go_wp2_with fail;refine(HN.out _).mono ?_;rintro e W4 ⟨rfl,hb3⟩;have hB3:=HBb.out.later hb3 HBb.out.lt;have m1:=hB3.at_ 1 _ rfl;have m2:=hB3.at_ 2 _ rfl;have HB3:=ah hb3;have HB4:=Lib.hid (Hbb.out.trans (hb3.mono Hbb.out.size));clear hB3 hb3 n0;have hkb:=HKB.out;cases z1
       ·go_wp2_with fail;go_meet;exact⟨_,rfl,aside HB3.out,aside (by rw[hkb];simp)⟩
       ·by_cases h8:8<x.params.length
        ·have h8z:(8:Int)<(x.params.length:Int):=by omega
         go_wp2_with fail;go_meet;exact⟨_,rfl,aside HB3.out,aside (by rw[hkb];simp;omega)⟩
        ·have h8z:¬(8:Int)<(x.params.length:Int):=by omega
         by_cases hz:z2=0
         ·subst hz;go_wp2_with(go_at_call 62;refine(HK.out _).mono ?_;rintro e w' ⟨rfl,rfl⟩);refine(HO.out _ HB4.out).mono ?_;rintro e W5 ⟨rfl,hb5⟩;have kG:=Lib.hid (HB3.out.trans (hb5.mono HB3.out.size));clear hb5;have h88:x.params.length≤8:=by omega
          cases z3;all_goals
           go_wp2_with fail;go_meet;exact⟨_,rfl,aside kG.out,aside (by rw[hkb];simp[h88]<;>omega)⟩
         ·have hzn:(z2 !=0)=true:=by simp[hz]
          go_wp2_with(go_at_call 62;refine(HK.out _).mono ?_;rintro e w' ⟨rfl,rfl⟩);go_meet;exact⟨_,rfl,aside HB3.out,aside (by rw[hkb];simp[hz])⟩
      case rest=>
      obtain⟨z,rfl,hb3,hkz⟩:=hcut;obtain⟨W4,rfl⟩:∃W,W=wc:=⟨_,rfl⟩;have hb4:=Hbb.out.trans (hb3.out.mono Hbb.out.size);have HBx:=Lib.hid (cO.out.trans (hb4.mono cO.out.size));clear n0 fa1;cases z with
      |true=>
       go_wp2_with fail;go_ret;exact⟨dh (by rw[←HE.out];exact(lG rG.out HT0.out (sQ hlt Al.out (gW HX.out hkz.out (by decide)) (by decide))).symm),HBx.out⟩
      |false=>
      have hB4:=HB1.out.later hb4 HB1.out.lt;have hb5:=HBb.out.later hb3.out HBb.out.lt;have fb1:=hB4.at_ 1 _ rfl;have n0:=hb5.at_ 0 _ rfl;have HTW:=Lib.hid (HFn.out.up fB.stays hF HBx.out);have HG:=Lib.hid (show kP x=0 from hkz.out);have HB4:=ah hb4;clear hB4 hb5 hb4 hkz;go_upto_region 16 with fail
      go_cut [95] (fun s95 wc=>∃z:Bool,s95=.bool z∧Aside (Below W4.heap.size W4 wc)∧Aside (dQ kR.name kP a.funcs kk=if z then 7 else 0))
      case first=>
       by_cases h0:0<kk
       ·have h0z:(0:Int)<(kk:Int):=by omega
        obtain⟨b2,off2,cs2,e2,hb2,_,⟨pv2,rfl,_⟩,hcell2⟩:=(HTW.out.at_ (k:=kk-1) (by omega));injection e2 with e2
        injection e2 with e2 e3 _
        subst e2;subst e3;have hd0:=hcell2 0 _ rfl;simp only[Nat.add_zero]at hd0;have hy:=aK (show kk-1<a.funcs.length by omega);generalize a.funcs[kk-1]=y at*;have HY:=ah hy;have HI:=Lib.hid (jS (name:=kR.name) (bad:=kP) h0 HX.out HY.out HG.out);have hi1:IntKind.i64.wrap ((kk:Int)-1)=(kk:Int)-1:=IntWalk.i64_in _ (by omega);have hi2:(0:Int)≤(kk:Int)-1:=by omega
        have hi3:((kk:Int)-1).toNat=kk-1:=by omega
        have hi4:(kk:Int)-1<(a.funcs.length:Int):=by omega
        clear hcell2 hy;cases hq:nT y.name x.name;all_goals
         have HQ:=ah hq;have hless:Op.bytesLess y.name.toList x.name.toList=_:=hq;clear hq;go_wp2_with fail;go_quiet(fail);go_wp2_with fail;go_meet;exact⟨_,rfl,aside (below_drewN (Below.refl _ _) _),aside (by rw[HI.out,HQ.out];rfl)⟩
       ·have h0z:decide ((0:Int)<(kk:Int))=false:=decide_eq_false (by omega);have HI:=Lib.hid (show dQ kR.name kP a.funcs kk=0 by
         have e:kk=0:=by omega
         have h:=HX.out;rw[e]at h⊢;exact jv h HG.out)
        go_wp2_with fail;go_quiet(fail);go_wp2_with fail;go_meet;exact⟨_,rfl,aside (below_drewN (Below.refl _ _) _),aside (by rw[HI.out];rfl)⟩
      case rest=>
      obtain⟨z,rfl,hb5,hiz⟩:=hcut;obtain⟨W5,rfl⟩:∃W,W=wc:=⟨_,rfl⟩;have HBy:=Lib.hid (HBx.out.trans (hb5.out.mono HBx.out.size));have hb6:=HB4.out.trans (hb5.out.mono HB4.out.size);cases z with
      |true=>
       go_wp2_with fail;go_ret;exact⟨dh (by rw[←HE.out];exact(lG rG.out HT0.out (sQ hlt Al.out hiz.out (by decide))).symm),HBy.out⟩
      |false=>
       have kH:=Lib.hid (BW.out.trans (hb6.mono BW.out.size));clear hb6;go_wp2_with fail;go_roundg (a.funcs.length-(kk+1))
       case measure=>omega
       case rel=>exact⟨kk+1,by omega,by omega,by go_num,kH.out,aside (jG Al.out hiz.out)⟩
     ·have hltz:¬(kk:Int)<(a.funcs.length:Int):=by omega
      obtain rfl:kk=a.funcs.length:=by omega
      have cO:=ah hbw;clear hbw;go_wp2_with fail;go_ret;exact⟨dh (by rw[←HE.out];exact(lG rG.out HT0.out (fK Al.out)).symm),cO.out⟩
end Go.Proofs.YtjaladhdnbhliaaGreatDoor
