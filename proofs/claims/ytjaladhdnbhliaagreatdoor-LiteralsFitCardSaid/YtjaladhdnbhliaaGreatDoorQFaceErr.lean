/- Parts. -/
import Derived.Test.YtjaladhdnbhliaaGreatDoorQName
import Derived.Deep.DeepCutAuto
import Derived.Deep.Light
set_option maxHeartbeats 8000000
set_option maxRecDepth 100000
namespace Go.Proofs.YtjaladhdnbhliaaGreatDoor
open Go.Proofs.Tryz
open Go.RowKit Go.Shelf
def eG(c:UInt8):Bool:=decide (c.toNat=42)
def gG(s:ByteArray):Bool:=s.data.toList.any eG
theorem Dq(s:ByteArray)(w:World)(hs:s.size≤140737488355328):Calls prog 166 #[.string s] w fun e w'=>e=.returned (.bool (gG s))∧w=w':=by
 go_enter func166,ntmps166;go_wp2;go_loopg [3] s.size (fun gg s3 wr=>∃kk:Nat,kk≤s.size∧s.size-kk≤gg∧s3=.int .i64 kk∧wr=w∧Aside (∀j,j<kk→∀x,s.data.toList[j]? =some x→eG x=false))
 case atStart=>exact⟨0,Nat.zero_le _,by omega,rfl,rfl,(show Aside _ from fun j hj=>absurd hj (Nat.not_lt_zero _))⟩
 case round=>
  obtain⟨kk,hkk,hg,rfl,rfl,A1⟩:=hrel
  by_cases hlt:kk<s.size
  ·have hltz:(kk:Int)<(s.size:Int):=by omega
   have hb:(s[kk].toNat:Int)<256:=by have:=s[kk].toNat_lt;omega
   go_wp2
   ·have hq:eG s[kk]=true:=by(simp[eG]at *;omega)
    go_ret;go_tidy;exact⟨dw (Ba (gY s kk hlt) hq).symm,rfl⟩
   ·have hq:eG s[kk]=false:=by(simp[eG]at *;omega)
    go_roundg (s.size-(kk+1))
    case measure=>omega
    case rel=>exact⟨kk+1,by omega,by omega,by go_num,rfl,(show Aside _ from qG (gY s kk hlt) hq A1.out)⟩
  ·have hltz:¬(kk:Int)<(s.size:Int):=by omega
   obtain rfl:kk=s.size:=by omega
   go_wp2;go_ret;exact⟨dw (wK (Nat.le_of_eq (tH s)) A1.out).symm,rfl⟩
def eY(x:Known):Int:=if aX x.name&&(decide (aP x.dV=0)&& !(gG x.dV))then 0 else 4
def jE(s:ByteArray):Bool:=decide (aP s≠0)
def kP(x:kR):Int:=if aX x.name&&(decide (x.params.length≤8)&&(decide (aP x.result=0)&& !(x.params.any jE)))then 0 else 4
def pV(l:List Known):Int:=gV (dQ Known.name eY l) l.length
def zX(l:List kR):Int:=gV (dQ kR.name kP l) l.length
def fF(a:gU):Int:=if 24<a.types.length+a.funcs.length then 1 else if pV a.types=0 then zX a.funcs else pV a.types
theorem nI{l:List Known}{k:Nat}{e:Int}(hk:k<l.length)(hb:∀j,j<k→dQ Known.name eY l j=0)(h:dQ Known.name eY l k=e)(h0:e≠0):pV l=e:=by
 rw[pV,mZ hk hb (by rw[h];exact h0),h]
theorem sQ{l:List kR}{k:Nat}{e:Int}(hk:k<l.length)(hb:∀j,j<k→dQ kR.name kP l j=0)(h:dQ kR.name kP l k=e)(h0:e≠0):zX l=e:=by
 rw[zX,mZ hk hb (by rw[h];exact h0),h]
theorem lH{a:gU}{e:Int}(ng:¬24<a.types.length+a.funcs.length)(h:pV a.types=e)(h0:e≠0):fF a=e:=by
 subst h;unfold fF;rw[if_neg ng,if_neg h0]
theorem lG{a:gU}{e:Int}(ng:¬24<a.types.length+a.funcs.length)(h:pV a.types=0)(he:zX a.funcs=e):fF a=e:=by
 unfold fF;rw[if_neg ng,if_pos h,he]
theorem Am{x:Known}(h:aX x.name=false∨aP x.dV≠0∨gG x.dV=true):eY x=4:=by
 unfold eY;rcases h with h|h|h<;>simp[h]
theorem U0{x:Known}(h1:aX x.name=true)(h2:aP x.dV=0)(h3:gG x.dV=false):eY x=0:=by
 unfold eY;simp[h1,h2,h3]
theorem abN(x:kR):kP x=if((!(aX x.name)||(decide (aP x.result≠0)||decide (8<x.params.length)))||x.params.any jE)=true then 4 else 0:=by
 unfold kP
 by_cases h2:aP x.result=0<;>by_cases h3:x.params.length≤8<;>cases aX x.name<;>cases x.params.any jE<;>simp[h2,h3]<;>omega
theorem any_take_succ{α:Type}{p:α→Bool}{l:List α}{k:Nat}{x:α}(hx:l[k]? =some x):(l.take (k+1)).any p=((l.take k).any p||p x):=by
 rw[List.take_add_one,hx];simp
theorem NT(a:gU)(cs:List Value)(F:aV)(w:World)(hF:∀k,F k→k<w.heap.size)(ha:bD w F cs a):
  Calls prog 99 #[.agg cs.toArray] w fun e w'=>e=.returned (.int .i64 (fF a))∧Below w.heap.size w w':=by
 obtain⟨tv,fv,rfl,ht,hf⟩:=ha;obtain⟨A1,c1,rfl,_,_,hl1,_⟩:=ht.form;obtain⟨A3,c3,rfl,_,_,hl3,_⟩:=hf.form;obtain⟨E,hE⟩:∃E,fF a=E:=⟨_,rfl⟩;rw[hE]
 by_cases ng:24<a.types.length+a.funcs.length
 ·have KL:(24:Int)<(a.types.length:Int)+(a.funcs.length:Int):=by omega
  obtain rfl:E=1:=by rw[←hE];simp[fF,ng]
  clear hE;go_enter func99,ntmps99;go_wp2;go_ret;exact⟨rfl,by go_grown⟩
 ·have KL:¬(24:Int)<(a.types.length:Int)+(a.funcs.length:Int):=by omega
  have HE:=ah hE;have rG:=ah ng;clear hE ng;go_enter func99,ntmps99;go_wp2_with fail;have hB:=Box.made w 42 #[.slice A1 a.types.length c1,.slice A3 a.funcs.length c3];have hb0:Below w.heap.size w (w.alloc (.cells #[.slice A1 a.types.length c1,.slice A3 a.funcs.length c3] 42)):=by go_grown
  generalize w.alloc (.cells #[.slice A1 a.types.length c1,.slice A3 a.funcs.length c3] 42)=W1 at hB hb0⊢;have HB:=Lib.hid hB;have Hb0:=Lib.hid hb0;clear hB hb0;go_loopg [3] a.types.length (fun gg s3 wr=>∃kk:Nat,kk≤a.types.length∧a.types.length-kk≤gg∧s3=.int .i64 kk∧Aside (Below W1.heap.size W1 wr)∧Aside (∀j,j<kk→dQ Known.name eY a.types j=0))
  case atStart=>exact⟨0,Nat.zero_le _,by omega,rfl,Below.refl _ _,(show Aside _ from fun j hj=>absurd hj (Nat.not_lt_zero _))⟩
  case round=>
   obtain⟨kk,hkk,hg,rfl,BW,Al⟩:=hrel;have hB1:=HB.out.later BW.out HB.out.lt;have ha0:=hB1.at_ 0 _ rfl;have ha1:=hB1.at_ 1 _ rfl;have hbw:=Hb0.out.trans (BW.out.mono Hb0.out.size);clear hB1
   by_cases hlt:kk<a.types.length
   ·have hltz:(kk:Int)<(a.types.length:Int):=by omega
    have hat:=ht.up aW.stays hF hbw;obtain⟨b1,off,cs,rfl,hb,hcs,⟨rfl,hn,hi⟩,hcell⟩:=hat.at_ hlt;have hc0:=hcell 0 _ rfl;have hc1:=hcell 1 _ rfl;simp only[Nat.add_zero]at hc0;have hx:=aK hlt;generalize a.types[kk]=x at*;have HX:=ah hx;have HT:=ah hat;have cO:=ah hbw;have hnm:=fun W=>fU x.name W hn
    have Yt:=fun W=>dZ x.dV W hi
    have hop:=fun W=>Dq x.dV W hi
    obtain⟨z1,hz1⟩:∃z,aX x.name=z:=⟨_,rfl⟩;obtain⟨z2,hz2⟩:∃z,aP x.dV=z:=⟨_,rfl⟩;obtain⟨z3,hz3⟩:∃z,gG x.dV=z:=⟨_,rfl⟩;rw[hz1]at hnm;rw[hz2]at Yt;rw[hz3]at hop;obtain⟨Z1,Z2,Z3⟩:=ak hz1 hz2 hz3;obtain⟨HN,HK,HO⟩:=ak hnm Yt hop;clear hx hcell hat hnm Yt hop hz1 hz2 hz3 hbw;cases z1 with
    |false=>
     go_wp2_with(go_at_call 98;refine(HN.out _).mono ?_;rintro e w' ⟨rfl,rfl⟩);go_ret;exact⟨dh (by rw[←HE.out];exact(lH rG.out (nI hlt Al.out (gW HX.out (Am (.inl Z1.out)) (by decide)) (by decide)) (by decide)).symm),cO.out⟩
    |true=>
     by_cases hzz:z2=0
     ·subst hzz;cases z3 with
      |true=>
       go_wp2_with(first|(go_at_call 98;refine(HN.out _).mono ?_;rintro e w' ⟨rfl,rfl⟩)|(go_at_call 165;refine(HK.out _).mono ?_;rintro e w' ⟨rfl,rfl⟩)|(go_at_call 166;refine(HO.out _).mono ?_;rintro e w' ⟨rfl,rfl⟩));go_ret;exact⟨dh (by rw[←HE.out];exact(lH rG.out (nI hlt Al.out (gW HX.out (Am (.inr (.inr Z3.out))) (by decide)) (by decide)) (by decide)).symm),cO.out⟩
      |false=>
       have HG:=Lib.hid (U0 Z1.out Z2.out Z3.out)
       by_cases h0:0<kk
       ·have h0z:(0:Int)<(kk:Int):=by omega
        obtain⟨b2,off2,cs2,e2,_,_,⟨rfl,_⟩,hcell2⟩:=HT.out.at_ (k:=kk-1) (by omega);injection e2 with e2
        injection e2 with e2 e3 _
        subst e2;subst e3;have hd0:=hcell2 0 _ rfl;simp only[Nat.add_zero]at hd0;have hy:=aK (show kk-1<a.types.length by omega);generalize a.types[kk-1]=y at*;have HY:=ah hy;have HI:=Lib.hid (jS (name:=Known.name) (bad:=eY) h0 HX.out HY.out HG.out);have hi1:IntKind.i64.wrap ((kk:Int)-1)=(kk:Int)-1:=IntWalk.i64_in _ (by omega);have hi2:(0:Int)≤(kk:Int)-1:=by omega
        have hi3:((kk:Int)-1).toNat=kk-1:=by omega
        have hi4:(kk:Int)-1<(a.types.length:Int):=by omega
        have qB:=Jz x.name y.name;clear hcell2 hy;cases hq:nT y.name x.name with
        |true=>
         rw[hq]at qB;have HQ:=ah hq;clear hq;have KY:(Op.bytesLess x.name.toList y.name.toList||x.name.toList==y.name.toList)=false:=qB;clear qB;go_wp2_with(first|(go_at_call 98;refine(HN.out _).mono ?_;rintro e w' ⟨rfl,rfl⟩)|(go_at_call 165;refine(HK.out _).mono ?_;rintro e w' ⟨rfl,rfl⟩)|(go_at_call 166;refine(HO.out _).mono ?_;rintro e w' ⟨rfl,rfl⟩));go_quiet(fail);go_wp2_with fail;go_roundg (a.types.length-(kk+1))
         case measure=>omega
         case rel=>exact⟨kk+1,by omega,by omega,by go_num,below_drewN BW.out _,(show Aside _ from jG Al.out (by rw[HI.out,HQ.out];rfl))⟩
        |false=>
         rw[hq]at qB;have HQ:=ah hq;clear hq;have KY:(Op.bytesLess x.name.toList y.name.toList||x.name.toList==y.name.toList)=true:=qB;clear qB;go_wp2_with(first|(go_at_call 98;refine(HN.out _).mono ?_;rintro e w' ⟨rfl,rfl⟩)|(go_at_call 165;refine(HK.out _).mono ?_;rintro e w' ⟨rfl,rfl⟩)|(go_at_call 166;refine(HO.out _).mono ?_;rintro e w' ⟨rfl,rfl⟩));go_quiet(fail);go_wp2_with fail;go_ret;exact⟨dh (by rw[←HE.out];exact(lH rG.out (nI hlt Al.out (by rw[HI.out,HQ.out];rfl) (by decide)) (by decide)).symm),below_drewN cO.out _⟩
       ·have h0z:decide ((0:Int)<(kk:Int))=false:=by simp;omega
        have HI:=Lib.hid (show dQ Known.name eY a.types kk=0 by
         have e:kk=0:=by omega
         have h:=HX.out;rw[e]at h⊢;exact jv h HG.out)
        go_wp2_with(first|(go_at_call 98;refine(HN.out _).mono ?_;rintro e w' ⟨rfl,rfl⟩)|(go_at_call 165;refine(HK.out _).mono ?_;rintro e w' ⟨rfl,rfl⟩)|(go_at_call 166;refine(HO.out _).mono ?_;rintro e w' ⟨rfl,rfl⟩));go_quiet(fail);go_wp2_with fail;go_roundg (a.types.length-(kk+1))
        case measure=>omega
        case rel=>exact⟨kk+1,by omega,by omega,by go_num,below_drewN BW.out _,(show Aside _ from jG Al.out HI.out)⟩
     ·have hzn:(z2 !=0)=true:=by simp[hzz]
      go_wp2_with(first|(go_at_call 98;refine(HN.out _).mono ?_;rintro e w' ⟨rfl,rfl⟩)|(go_at_call 165;refine(HK.out _).mono ?_;rintro e w' ⟨rfl,rfl⟩)|(go_at_call 166;refine(HO.out _).mono ?_;rintro e w' ⟨rfl,rfl⟩));go_ret;exact⟨dh (by rw[←HE.out];exact(lH rG.out (nI hlt Al.out (gW HX.out (Am (.inr (.inl (by rw[Z2.out];exact hzz)))) (by decide)) (by decide)) (by decide)).symm),cO.out⟩
   ·have hltz:¬(kk:Int)<(a.types.length:Int):=by omega
    obtain rfl:kk=a.types.length:=by omega
    have HT0:=Lib.hid (show pV a.types=0 from fK Al.out);obtain⟨W2,rfl⟩:∃W2,W2=wr:=⟨_,rfl⟩;have HB2:=Lib.hid (HB.out.later BW.out HB.out.lt);have cO:=ah hbw;clear hbw Al;go_wp2_with fail;go_loopg [4,6] a.funcs.length (fun gg s4 _ wr=>∃kk:Nat,kk≤a.funcs.length∧a.funcs.length-kk≤gg∧s4=.int .i64 kk∧Aside (Below W2.heap.size W2 wr)∧Aside (∀j,j<kk→dQ kR.name kP a.funcs j=0))
    case atStart=>exact⟨0,Nat.zero_le _,by omega,rfl,Below.refl _ _,(show Aside _ from fun j hj=>absurd hj (Nat.not_lt_zero _))⟩
    case round=>
     clear BW ha0 ha1;obtain⟨kk,hkk,hg,rfl,BW,Al⟩:=hrel;have hB1:=HB2.out.later BW.out HB2.out.lt;have ha0:=hB1.at_ 0 _ rfl;have ha1:=hB1.at_ 1 _ rfl;have hwl:=hB1.lt;have hbw:=cO.out.trans (BW.out.mono cO.out.size);clear hB1
     by_cases hlt:kk<a.funcs.length
     ·have hltz:(kk:Int)<(a.funcs.length:Int):=by omega
      have hat:=hf.up fB.stays hF hbw;obtain⟨b1,off,cs,rfl,hb,hcs,⟨pv,rfl,hn,hr,hp⟩,hcell⟩:=hat.at_ hlt;obtain⟨P1,p1,rfl,_,_,hpl,_⟩:=hp.form;have hc0:=hcell 0 _ rfl;have hc1:=hcell 1 _ rfl;have hc2:=hcell 2 _ rfl;simp only[Nat.add_zero]at hc0;have hx:=aK hlt;generalize a.funcs[kk]=x at*;have HX:=ah hx;have HT:=ah hat;have BO:=ah hbw;have HP:=ah hp;have hnm:=fun W=>fU x.name W hn
      have Yt:=fun W=>dZ x.result W hr
      obtain⟨z1,hz1⟩:∃z,aX x.name=z:=⟨_,rfl⟩;obtain⟨z2,hz2⟩:∃z,aP x.result=z:=⟨_,rfl⟩;rw[hz1]at hnm;rw[hz2]at Yt;obtain⟨Z1,Z2⟩:=aj hz1 hz2;obtain⟨HN,HK⟩:=aj hnm Yt;clear hx hcell hat hnm Yt hz1 hz2 hbw hp;obtain⟨q0,hq0⟩:∃q:Bool,(!z1||(decide (z2≠0)||decide (8<x.params.length)))=q:=⟨_,rfl⟩;have Q0:=ah hq0;clear hq0;go_upto_region 14 with fail
      have hB3:=Box.made wr 62 #[.string x.name,.slice P1 x.params.length p1,.string x.result];have hb3:Below wr.heap.size wr (wr.alloc (.cells #[.string x.name,.slice P1 x.params.length p1,.string x.result] 62)):=by go_grown
      generalize wr.alloc (.cells #[.string x.name,.slice P1 x.params.length p1,.string x.result] 62)=W3 at hB3 hb3⊢;have n0:=hB3.at_ 0 _ rfl;have n1:=hB3.at_ 1 _ rfl;have n2:=hB3.at_ 2 _ rfl;have g0:=(hb3.cell (p:=⟨w.heap.size,0,none⟩) hwl).trans ha0;have g1:=(hb3.cell (p:=⟨w.heap.size,1,none⟩) hwl).trans ha1;have HB3:=ah hb3;clear hB3 hb3 ha0 ha1 hc0 hc1 hc2;go_cut [6] (fun s6 wx=>s6=.bool q0∧W3=wx)
      case first=>
       go_wp2_with(first|(go_at_call 98;refine(HN.out _).mono ?_;rintro e w' ⟨rfl,rfl⟩)|(go_at_call 165;refine(HK.out _).mono ?_;rintro e w' ⟨rfl,rfl⟩));all_goals go_meet
       all_goals (refine⟨?_,rfl⟩;rw[←Q0.out];clear Q0;go_light;first|(simp[*];done)|(simp[*];omega))
      case rest=>
       obtain⟨rfl,rfl⟩:=hcut;go_wp2_with fail;go_loopg [6,7] x.params.length (fun gg s6 s7 wq=>∃(jj:Nat) (q:Bool),jj≤x.params.length∧x.params.length-jj≤gg∧s7=.int .i64 jj∧s6=.bool q∧W3=wq∧Aside (q=(q0||(x.params.take jj).any jE)))
       case atStart=>exact⟨0,q0,Nat.zero_le _,by omega,rfl,rfl,rfl,aside (by simp)⟩
       case round=>
        obtain⟨jj,q,hjj,hg2,rfl,rfl,rfl,Qa⟩:=hrel
        by_cases hlj:jj<x.params.length
        ·have ah5:(jj:Int)<(x.params.length:Int):=by omega
         obtain⟨b3,arn,cs3,rfl,_,_,⟨rfl,hps⟩,adH⟩:=((HP.out.stays aY.stays (fun _ h=>h) (Keeps.of_below HB3.out (bg hF BO.out)))).at_ hlj;have hm0:=adH 0 _ rfl;simp only[Nat.mul_one,Nat.add_zero]at hm0;have hpx:=aK hlj;generalize x.params[jj]=u at*;have hku:=fun W=>dZ u W hps
         have HA:=Lib.hid (any_take_succ (p:=jE) hpx);obtain⟨z4,Ir⟩:∃z,aP u=z:=⟨_,rfl⟩;rw[Ir]at hku;have Z4:=ah Ir;have HKU:=ah hku;clear adH hpx hku Ir;cases q with
         |true=>
          go_wp2_with fail;go_roundg (x.params.length-(jj+1))
          case measure=>omega
          case rel=>exact⟨jj+1,true,by omega,by omega,by go_num,rfl,rfl,aside (by rw[HA.out,←Bool.or_assoc,←Qa.out];rfl)⟩
         |false=>
          go_wp2_with(go_at_call 165;refine(HKU.out _).mono ?_;rintro e w' ⟨rfl,rfl⟩);go_roundg (x.params.length-(jj+1))
          case measure=>omega
          case rel=>exact⟨jj+1,z4 !=0,by omega,by omega,by go_num,rfl,rfl,aside (by rw[HA.out,←Bool.or_assoc,←Qa.out,jE,Z4.out];by_cases hz:z4=0<;>simp[hz])⟩
        ·have ah5:¬(jj:Int)<(x.params.length:Int):=by omega
         obtain rfl:jj=x.params.length:=by omega
         have hS:=abN x;have hq:=Qa.out;rw[List.take_of_length_le (aJ _)]at hq;rw[Z1.out,Z2.out,Q0.out,←hq]at hS;have HS:=ah hS;clear hS hq;cases q with
         |true=>
          go_wp2_with fail;go_ret;exact⟨dh (by rw[←HE.out];exact(lG rG.out HT0.out (sQ hlt Al.out (gW HX.out HS.out (by decide)) (by decide))).symm),BO.out.trans (HB3.out.mono BO.out.size)⟩
         |false=>
          have HG:=Lib.hid (show kP x=0 from HS.out)
          by_cases h0:0<kk
          ·have h0z:(0:Int)<(kk:Int):=by omega
           obtain⟨b2,off2,cs2,e2,hb2,_,⟨pv2,rfl,_⟩,hcell2⟩:=HT.out.at_ (k:=kk-1) (by omega);injection e2 with e2
           injection e2 with e2 e3 _
           subst e2;subst e3;have hd0:=(HB3.out.cell (p:=⟨b1,off+(kk-1)*3+0,none⟩) (bg hF BO.out _ hb)).trans (hcell2 0 _ rfl);simp only[Nat.add_zero]at hd0;have hy:=aK (show kk-1<a.funcs.length by omega);generalize a.funcs[kk-1]=y at*;have HY:=ah hy;have HI:=Lib.hid (jS (name:=kR.name) (bad:=kP) h0 HX.out HY.out HG.out);have hi1:IntKind.i64.wrap ((kk:Int)-1)=(kk:Int)-1:=IntWalk.i64_in _ (by omega);have hi2:(0:Int)≤(kk:Int)-1:=by omega
           have hi3:((kk:Int)-1).toNat=kk-1:=by omega
           have hi4:(kk:Int)-1<(a.funcs.length:Int):=by omega
           have qB:=Jz x.name y.name;clear hcell2 hy;cases hq:nT y.name x.name with
           |true=>
            rw[hq]at qB;have HQ:=ah hq;clear hq;have KY:(Op.bytesLess x.name.toList y.name.toList||x.name.toList==y.name.toList)=false:=qB;clear qB;go_wp2_with fail;go_quiet(fail);go_wp2_with fail;go_roundg (a.funcs.length-(kk+1))
            case measure=>omega
            case rel=>exact⟨kk+1,by omega,by omega,by go_num,below_drewN (BW.out.trans (HB3.out.mono BW.out.size)) _,(show Aside _ from jG Al.out (by rw[HI.out,HQ.out];rfl))⟩
           |false=>
            rw[hq]at qB;have HQ:=ah hq;clear hq;have KY:(Op.bytesLess x.name.toList y.name.toList||x.name.toList==y.name.toList)=true:=qB;clear qB;go_wp2_with fail;go_quiet(fail);go_wp2_with fail;go_ret;exact⟨dh (by rw[←HE.out];exact(lG rG.out HT0.out (sQ hlt Al.out (by rw[HI.out,HQ.out];rfl) (by decide))).symm),below_drewN (BO.out.trans (HB3.out.mono BO.out.size)) _⟩
          ·have h0z:decide ((0:Int)<(kk:Int))=false:=by simp;omega
           have HI:=Lib.hid (show dQ kR.name kP a.funcs kk=0 by
            have e:kk=0:=by omega
            have h:=HX.out;rw[e]at h⊢;exact jv h HG.out)
           go_wp2_with fail;go_quiet(fail);go_wp2_with fail;go_roundg (a.funcs.length-(kk+1))
           case measure=>omega
           case rel=>exact⟨kk+1,by omega,by omega,by go_num,below_drewN (BW.out.trans (HB3.out.mono BW.out.size)) _,(show Aside _ from jG Al.out HI.out)⟩
     ·have hltz:¬(kk:Int)<(a.funcs.length:Int):=by omega
      obtain rfl:kk=a.funcs.length:=by omega
      go_wp2_with fail;go_ret;exact⟨dh (by rw[←HE.out];exact(lG rG.out HT0.out (fK Al.out)).symm),hbw⟩
end Go.Proofs.YtjaladhdnbhliaaGreatDoor
