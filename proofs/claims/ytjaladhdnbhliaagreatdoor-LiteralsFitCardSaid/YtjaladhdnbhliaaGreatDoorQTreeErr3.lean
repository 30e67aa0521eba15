/- Parts. -/
import Derived.Test.YtjaladhdnbhliaaGreatDoorQTreeErr
set_option maxHeartbeats 8000000
set_option maxRecDepth 100000
namespace Go.Proofs.YtjaladhdnbhliaaGreatDoor
open Go.Proofs.Tryz
open Go.RowKit Go.Shelf
theorem iD.four{w:World}{F:aV}{cs:List Value}{t:Ty}(h:iD w F cs t):∃a b c d,cs= [a,b,c,d]:=by
 obtain⟨n,h⟩:=h;cases n with
 |zero=>exact h.elim
 |succ n=>obtain⟨av,rfl,_⟩:=h;exact⟨_,_,_,_,rfl⟩
theorem dN.five{w:World}{F:aV}{cs:List Value}{t:Ex}(h:dN w F cs t):∃a b c d e,cs= [a,b,c,d,e]:=by
 obtain⟨n,h⟩:=h;cases n with
 |zero=>exact h.elim
 |succ n=>obtain⟨av,rfl,_⟩:=h;exact⟨_,_,_,_,_,rfl⟩
theorem aQ.form{w:World}{F:aV}{cs:List Value}{x:Field}(h:aQ w F cs x):∃a b c d,cs= [.string x.name,a,b,c,d]∧okS x.name∧iD w F [a,b,c,d] x.dV:=by
 obtain⟨tc,rfl,h1,h2⟩:=h;obtain⟨a,b,c,d,rfl⟩:=h2.four;exact⟨_,_,_,_,rfl,h1,h2⟩
theorem dF.form{w:World}{F:aV}{cs:List Value}{x:Func}(h:dF w F cs x):∃P1 p1 a b c d e f g i j,cs= [.string x.name,.string x.dH,.slice P1 x.params.length p1,a,b,c,d,e,f,g,i,j]∧okS x.name∧okS x.dH∧
  SliceOf aQ 5 80 w F (.slice P1 x.params.length p1) x.params∧iD w F [a,b,c,d] x.result∧dN w F [e,f,g,i,j] x.body:=by
 obtain⟨pv,tc,bc,rfl,h1,h2,h3,h4,h5⟩:=h;obtain⟨a,b,c,d,rfl⟩:=h4.four;obtain⟨e,f,g,i,j,rfl⟩:=h5.five;obtain⟨P1,p1,rfl,_⟩:=h3.form;exact⟨_,_,_,_,_,_,_,_,_,_,_,rfl,h1,h2,h3,h4,h5⟩
theorem aN.form{w:World}{F:aV}{cs:List Value}{x:Module}(h:aN w F cs x):∃U1 u1 T1 e1 T2 e2,cs= [.slice U1 x.uses.length u1,.slice T1 x.types.length e1,.slice T2 x.funcs.length e2]∧
  SliceOf aY 1 16 w F (.slice U1 x.uses.length u1) x.uses∧SliceOf aQ 5 80 w F (.slice T1 x.types.length e1) x.types∧SliceOf dF 12 192 w F (.slice T2 x.funcs.length e2) x.funcs:=by
 obtain⟨uv,tv,fv,rfl,h1,h2,h3⟩:=h;obtain⟨U1,u1,rfl,_⟩:=h1.form;obtain⟨T1,e1,rfl,_⟩:=h2.form;obtain⟨T2,e2,rfl,_⟩:=h3.form;exact⟨_,_,_,_,_,_,rfl,h1,h2,h3⟩
theorem akd{x:Func}{z1 z2:Bool}(h1:aX x.name=z1)(h2:aX x.dH=z2):(!z1||(!x.dH.toList.isEmpty&& !z2))=decide (aX x.name=false∨(x.dH.size≠0∧aX x.dH=false)):=by
 subst h1;subst h2;rw[bC]
 by_cases h:x.dH.size=0<;>cases aX x.name<;>cases aX x.dH<;>simp[h]
theorem qO{x:Field}(h:aX x.name=false):fZ x=4:=by unfold fZ;rw[h];rfl
theorem jr{x:Field}{z:Int}(h:aX x.name=true)(h2:dn 10 x.dV=z):fZ x=z:=by unfold fZ;rw[h,if_pos rfl,h2]
theorem zW{x:Func}(h:aX x.name=false∨(x.dH.size≠0∧aX x.dH=false)):jg x=4:=by unfold jg;rw[if_pos h]
theorem Il{x:Func}(h:¬(aX x.name=false∨(x.dH.size≠0∧aX x.dH=false)))(h2:8<x.params.length):jg x=1:=by unfold jg;rw[if_neg h,if_pos h2]
theorem sO{x:Func}{z:Int}(h:¬(aX x.name=false∨(x.dH.size≠0∧aX x.dH=false)))(h2:¬8<x.params.length)(h3:dL fZ x.params=z)(h4:z≠0):jg x=z:=by
 subst h3;unfold jg;rw[if_neg h,if_neg h2,if_pos h4]
theorem Cb{x:Func}{z:Int}(h:¬(aX x.name=false∨(x.dH.size≠0∧aX x.dH=false)))(h2:¬8<x.params.length)(h3:dL fZ x.params=0)(h4:dn 10 x.result=z)(h5:z≠0):jg x=z:=by
 subst h4;unfold jg;rw[if_neg h,if_neg h2,if_neg (by rw[h3];decide),if_pos h5]
theorem zV{x:Func}{z:Int}(h:¬(aX x.name=false∨(x.dH.size≠0∧aX x.dH=false)))(h2:¬8<x.params.length)(h3:dL fZ x.params=0)(h4:dn 10 x.result=0)(h5:iE 10 x.body=z):jg x=z:=by
 subst h5;unfold jg;rw[if_neg h,if_neg h2,if_neg (by rw[h3];decide),if_neg (by rw[h4];decide)]
theorem NU(x:Func)(cs:List Value)(F:aV)(w:World)(hF:∀k,F k→k<w.heap.size)(hx:dF w F cs x):
  Calls prog 148 #[.agg cs.toArray] w fun e w'=>e=.returned (.int .i64 (jg x))∧Below w.heap.size w w':=by
 obtain⟨P1,p1,a,b,c,d,e,f,g,i,j,rfl,hn,hv,hp,hr,hb⟩:=dF.form hx;obtain⟨E,hE⟩:∃E,jg x=E:=⟨_,rfl⟩;rw[hE];obtain⟨_,_,_,_,_,hpl,_⟩:=hp.form;have hty:=fun U (hU:Below w.heap.size w U)=>wF 10 x.result 1 [a,b,c,d] F U (by omega) (by omega) (iD.stays w U F F _ _ hr (fun _ h=>h) (Keeps.of_below hU hF)) (bg hF hU)
 have hex:=fun U (hU:Below w.heap.size w U)=>NR 10 x.body 1 [e,f,g,i,j] F U (by omega) (by omega) (dN.stays w U F F _ _ hb (fun _ h=>h) (Keeps.of_below hU hF)) (bg hF hU)
 have hnm:=fun W=>fU x.name W hn
 have hvm:=fun W=>fU x.dH W hv
 obtain⟨z1,hz1⟩:∃z,aX x.name=z:=⟨_,rfl⟩;obtain⟨z2,hz2⟩:∃z,aX x.dH=z:=⟨_,rfl⟩;obtain⟨z3,hz3⟩:∃z,dn 10 x.result=z:=⟨_,rfl⟩;obtain⟨z4,Ir⟩:∃z,iE 10 x.body=z:=⟨_,rfl⟩;rw[hz1]at hnm;rw[hz2]at hvm;rw[hz3]at hty;rw[Ir]at hex;obtain⟨HE,HN,HV,XV,HEX,Z1,Z2,Z3,Z4,HP⟩:=aG hE hnm hvm hty hex hz1 hz2 hz3 Ir hp;clear hE hnm hvm hty hex hz1 hz2 hz3 Ir hp hr hb hx;go_enter func148,ntmps148;go_upto_region 1 with fail
 have hB:=Box.made w 83 #[.string x.name,.string x.dH,.slice P1 x.params.length p1,a,b,c,d,e,f,g,i,j];have hb0:Below w.heap.size w (w.alloc (.cells #[.string x.name,.string x.dH,.slice P1 x.params.length p1,a,b,c,d,e,f,g,i,j] 83)):=by go_grown
 generalize w.alloc (.cells #[.string x.name,.string x.dH,.slice P1 x.params.length p1,a,b,c,d,e,f,g,i,j] 83)=W1 at hB hb0⊢;have x0:=hB.at_ 0 _ rfl;have x1:=hB.at_ 1 _ rfl;have x2:=hB.at_ 2 _ rfl;obtain⟨HB,Hb0⟩:=aj hB hb0;clear hB hb0;obtain⟨q,hq⟩:∃q:Bool,decide (aX x.name=false∨(x.dH.size≠0∧aX x.dH=false))=q:=⟨_,rfl⟩;have HQ:=ah hq;have OI:=Lib.hid ((akd Z1.out Z2.out).trans hq);clear hq;go_cut [20] (fun s20 wx=>s20=.bool q∧W1=wx)
 case first=>
  have hq2:=OI.out;cases z1<;>cases z2<;>cases he:x.dH.toList.isEmpty<;>rw[he]at hq2<;>subst hq2
  all_goals (go_wp2_with(go_at_call 98;(first|((with_reducible refine(HN.out _).mono ?_);rintro e w' ⟨rfl,rfl⟩)|((with_reducible refine(HV.out _).mono ?_);rintro e w' ⟨rfl,rfl⟩))))
  all_goals (go_meet;exact⟨rfl,rfl⟩)
 case rest=>
  obtain⟨rfl,rfl⟩:=hcut;cases q with
  |true=>
   go_wp2_with fail;go_ret;exact⟨dh (by rw[←HE.out,zW (of_decide_eq_true HQ.out)]),Hb0.out⟩
  |false=>
   have HNB:=Lib.hid (of_decide_eq_false HQ.out)
   by_cases h8:8<x.params.length
   ·have h8z:(8:Int)<(x.params.length:Int):=by omega
    go_wp2_with fail;go_ret;exact⟨dh (by rw[←HE.out,Il HNB.out h8]),Hb0.out⟩
   ·have h8z:¬(8:Int)<(x.params.length:Int):=by omega
    go_wp2_with fail;go_loopg [3,4] x.params.length (fun gg s3 _ wr=>∃kk:Nat,kk≤x.params.length∧x.params.length-kk≤gg∧s3=.int .i64 kk∧Aside (Below W1.heap.size W1 wr)∧Aside (∀j,j<kk→∀y,x.params[j]? =some y→fZ y=0))
    case atStart=>exact⟨0,Nat.zero_le _,by omega,rfl,Below.refl _ _,aside (fun j hj=>absurd hj (Nat.not_lt_zero _))⟩
    case round=>
     obtain⟨kk,hkk,hg,rfl,BW,Al⟩:=hrel;have hBr:=HB.out.later BW.out HB.out.lt;have y2:=hBr.at_ 2 _ rfl;have hbw:=Hb0.out.trans (BW.out.mono Hb0.out.size)
     by_cases hlt:kk<x.params.length
     ·have hltz:(kk:Int)<(x.params.length:Int):=by omega
      obtain⟨b1,off,cs,rfl,jc,hcs,hr1,hcell⟩:=(HP.out.up aQ.stays hF hbw).at_ hlt;have hy:=aK hlt;generalize x.params[kk]=y at*;obtain⟨c1,c2,c3,c4,rfl,hyn,hyt⟩:=aQ.form hr1;have hc0:=hcell 0 _ rfl;have hc1:=hcell 1 _ rfl;have hc2:=hcell 2 _ rfl;have hc3:=hcell 3 _ rfl;have hc4:=hcell 4 _ rfl;simp only[Nat.add_zero]at hc0;have Lj:=wF 10 y.dV 1 [c1,c2,c3,c4] F wr (by omega) (by omega) hyt (bg hF hbw);have hym:=fun W=>fU y.name W hyn
      obtain⟨z5,GR⟩:∃z,aX y.name=z:=⟨_,rfl⟩;obtain⟨z6,ET⟩:∃z,dn 10 y.dV=z:=⟨_,rfl⟩;rw[ET]at Lj;rw[GR]at hym;obtain⟨HY,uZ,Zx,Z5,Z6,cO⟩:=aA hy Lj hym GR ET hbw;clear hy Lj hym GR ET hcell hr1 hyt hcs hbw hBr;cases z5 with
      |false=>
       go_wp2_with fail;refine(Zx.out _).mono ?_;rintro e w' ⟨rfl,rfl⟩;go_wp2_with fail;go_ret;exact⟨dh (by rw[←HE.out,sO HNB.out h8 (eP HY.out (qO Z5.out) (by decide) Al.out) (by decide)]),cO.out⟩
      |true=>
       go_wp2_with fail;refine(Zx.out _).mono ?_;rintro e w' ⟨rfl,rfl⟩;go_wp2_with fail;refine uZ.out.mono ?_;rintro e w1 ⟨rfl,hb1⟩;have HB1:=Lib.hid (BW.out.trans (hb1.mono BW.out.size));have HB2:=Lib.hid (cO.out.trans (hb1.mono cO.out.size));clear hb1
       by_cases hz0:z6=0
       ·subst hz0;go_wp2_with fail;go_roundg (x.params.length-(kk+1))
        case measure=>omega
        case rel=>exact⟨kk+1,by omega,by omega,by go_num,HB1.out,aside (fO HY.out (jr Z5.out Z6.out) Al.out)⟩
       ·have hzn:(z6 !=0)=true:=by simp[hz0]
        go_wp2_with fail;go_ret;exact⟨dh (by rw[←HE.out,sO HNB.out h8 (eP HY.out (jr Z5.out Z6.out) hz0 Al.out) hz0]),HB2.out⟩
     ·have hltz:¬(kk:Int)<(x.params.length:Int):=by omega
      obtain rfl:kk=x.params.length:=by omega
      have y3:=hBr.at_ 3 _ rfl;have y4:=hBr.at_ 4 _ rfl;have y5:=hBr.at_ 5 _ rfl;have y6:=hBr.at_ 6 _ rfl;have HPE:=Lib.hid (fM Al.out);have Eb:=ah hBr;have cO:=ah hbw;clear hBr hbw;go_wp2_with fail;refine(XV.out _ cO.out).mono ?_;rintro e w1 ⟨rfl,hb1⟩;have hB2:=Eb.out.later hb1 Eb.out.lt;have u7:=hB2.at_ 7 _ rfl;have u8:=hB2.at_ 8 _ rfl;have u9:=hB2.at_ 9 _ rfl;have u10:=hB2.at_ 10 _ rfl;have u11:=hB2.at_ 11 _ rfl;have HB2:=Lib.hid (cO.out.trans (hb1.mono cO.out.size));clear hb1 hB2 y2 y3 y4 y5 y6
      by_cases hz0:z3=0
      ·subst hz0;go_wp2_with fail;refine(HEX.out _ HB2.out).mono ?_;rintro e w2 ⟨rfl,hb2⟩;go_wp2_with fail;go_ret;exact⟨dh (by rw[←HE.out,zV HNB.out h8 HPE.out Z3.out Z4.out]),HB2.out.trans (hb2.mono HB2.out.size)⟩
      ·have hzn:(z3==0)=false:=by simp[hz0]
       go_wp2_with fail;go_ret;exact⟨dh (by rw[←HE.out,Cb HNB.out h8 HPE.out Z3.out hz0]),HB2.out⟩
theorem IC{m:Module}{z:Int}(h:¬24<m.uses.length+m.types.length+m.funcs.length)(h2:dL qJ m.uses=z)(h3:z≠0):dD m=z:=by
 subst h2;unfold dD;rw[if_neg h,if_pos h3]
theorem sV{m:Module}{z:Int}(h:¬24<m.uses.length+m.types.length+m.funcs.length)(h2:dL qJ m.uses=0)(h3:dL fZ m.types=z)(h4:z≠0):dD m=z:=by
 subst h3;unfold dD;rw[if_neg h,if_neg (by rw[h2];decide),if_pos h4]
theorem sU{m:Module}{z:Int}(h:¬24<m.uses.length+m.types.length+m.funcs.length)(h2:dL qJ m.uses=0)(h3:dL fZ m.types=0)(h4:dL jg m.funcs=z):dD m=z:=by
 subst h4;unfold dD;rw[if_neg h,if_neg (by rw[h2];decide),if_neg (by rw[h3];decide)]
theorem Qu{s:ByteArray}(h:aX s=false):qJ s=4:=by unfold qJ;rw[h];rfl
theorem Qv{s:ByteArray}(h:aX s=true):qJ s=0:=by unfold qJ;rw[h,if_pos rfl]
theorem Jq(m:Module)(cs:List Value)(F:aV)(w:World)(hF:∀k,F k→k<w.heap.size)(hm:aN w F cs m):
  Calls prog 86 #[.agg cs.toArray] w fun e w'=>e=.returned (.int .i64 (dD m))∧Below w.heap.size w w':=by
 obtain⟨U1,u1,T1,e1,T2,e2,rfl,hu,ht,hf⟩:=aN.form hm;obtain⟨_,_,_,_,_,hul,_⟩:=hu.form;obtain⟨_,_,_,_,_,htl,_⟩:=ht.form;obtain⟨_,_,_,_,_,hfl,_⟩:=hf.form;obtain⟨E,hE⟩:∃E,dD m=E:=⟨_,rfl⟩;rw[hE]
 by_cases ng:24<m.uses.length+m.types.length+m.funcs.length
 ·have KL:(24:Int)<(m.uses.length:Int)+(m.types.length:Int)+(m.funcs.length:Int):=by omega
  obtain rfl:E=1:=by rw[←hE];unfold dD;rw[if_pos ng]
  clear hE hu ht hf hm;go_enter func86,ntmps86;go_wp2_with fail;go_ret;exact⟨rfl,by go_grown⟩
 ·have KL:¬(24:Int)<(m.uses.length:Int)+(m.types.length:Int)+(m.funcs.length:Int):=by omega
  obtain⟨HE,rG,HU,HT,HFn⟩:=ay hE ng hu ht hf;clear hE ng hu ht hf hm;go_enter func86,ntmps86;go_wp2_with fail;have hB:=Box.made w 27 #[.slice U1 m.uses.length u1,.slice T1 m.types.length e1,.slice T2 m.funcs.length e2];have hb0:Below w.heap.size w (w.alloc (.cells #[.slice U1 m.uses.length u1,.slice T1 m.types.length e1,.slice T2 m.funcs.length e2] 27)):=by go_grown
  generalize w.alloc (.cells #[.slice U1 m.uses.length u1,.slice T1 m.types.length e1,.slice T2 m.funcs.length e2] 27)=W1 at hB hb0⊢;have x0:=hB.at_ 0 _ rfl;obtain⟨HB,Hb0⟩:=aj hB hb0;clear hB hb0;go_loopg [3] m.uses.length (fun gg s3 wr=>∃kk:Nat,kk≤m.uses.length∧m.uses.length-kk≤gg∧s3=.int .i64 kk∧W1=wr∧Aside (∀j,j<kk→∀y,m.uses[j]? =some y→qJ y=0))
  case atStart=>exact⟨0,Nat.zero_le _,by omega,rfl,rfl,aside (fun j hj=>absurd hj (Nat.not_lt_zero _))⟩
  case round=>
   obtain⟨kk,hkk,hg,rfl,rfl,Al⟩:=hrel
   by_cases hlt:kk<m.uses.length
   ·have hltz:(kk:Int)<(m.uses.length:Int):=by omega
    obtain⟨b1,off,cs,rfl,jc,hcs,⟨rfl,hsz⟩,hcell⟩:=(HU.out.up aY.stays hF Hb0.out).at_ hlt;have hc0:=hcell 0 _ rfl;simp only[Nat.mul_one,Nat.add_zero]at hc0;have hy:=aK hlt;generalize m.uses[kk]=y at*;have hym:=fun W=>fU y W hsz
    obtain⟨z5,GR⟩:∃z,aX y=z:=⟨_,rfl⟩;rw[GR]at hym;obtain⟨HY,Zx,Z5⟩:=ak hy hym GR;clear hy hym GR hcell hcs;cases z5 with
    |false=>
     go_wp2_with fail;refine(Zx.out _).mono ?_;rintro e w' ⟨rfl,rfl⟩;go_wp2_with fail;go_ret;exact⟨dh (by rw[←HE.out,IC rG.out (eP HY.out (Qu Z5.out) (by decide) Al.out) (by decide)]),Hb0.out⟩
    |true=>
     go_wp2_with fail;refine(Zx.out _).mono ?_;rintro e w' ⟨rfl,rfl⟩;go_wp2_with fail;go_roundg (m.uses.length-(kk+1))
     case measure=>omega
     case rel=>exact⟨kk+1,by omega,by omega,by go_num,rfl,aside (fO HY.out (Qv Z5.out) Al.out)⟩
   ·have hltz:¬(kk:Int)<(m.uses.length:Int):=by omega
    obtain rfl:kk=m.uses.length:=by omega
    have HU0:=Lib.hid (fM Al.out);clear Al;go_wp2_with fail;go_loopg [4,5] m.types.length (fun gg s4 _ wr=>∃kk:Nat,kk≤m.types.length∧m.types.length-kk≤gg∧s4=.int .i64 kk∧Aside (Below W1.heap.size W1 wr)∧Aside (∀j,j<kk→∀y,m.types[j]? =some y→fZ y=0))
    case atStart=>exact⟨0,Nat.zero_le _,by omega,rfl,Below.refl _ _,aside (fun j hj=>absurd hj (Nat.not_lt_zero _))⟩
    case round=>
     obtain⟨kk,hkk,hg,rfl,BW,Al⟩:=hrel;have hBr:=HB.out.later BW.out HB.out.lt;have y1:=hBr.at_ 1 _ rfl;have hbw:=Hb0.out.trans (BW.out.mono Hb0.out.size);clear hBr
     by_cases hlt:kk<m.types.length
     ·have hltz:(kk:Int)<(m.types.length:Int):=by omega
      obtain⟨b1,off,cs,rfl,jc,hcs,hr1,hcell⟩:=(HT.out.up aQ.stays hF hbw).at_ hlt;have hy:=aK hlt;generalize m.types[kk]=y at*;obtain⟨c1,c2,c3,c4,rfl,hyn,hyt⟩:=aQ.form hr1;have hc0:=hcell 0 _ rfl;have hc1:=hcell 1 _ rfl;have hc2:=hcell 2 _ rfl;have hc3:=hcell 3 _ rfl;have hc4:=hcell 4 _ rfl;simp only[Nat.add_zero]at hc0;have Lj:=wF 10 y.dV 1 [c1,c2,c3,c4] F wr (by omega) (by omega) hyt (bg hF hbw);have hym:=fun W=>fU y.name W hyn
      obtain⟨z5,GR⟩:∃z,aX y.name=z:=⟨_,rfl⟩;obtain⟨z6,ET⟩:∃z,dn 10 y.dV=z:=⟨_,rfl⟩;rw[ET]at Lj;rw[GR]at hym;obtain⟨HY,uZ,Zx,Z5,Z6,cO⟩:=aA hy Lj hym GR ET hbw;clear hy Lj hym GR ET hcell hr1 hyt hcs hbw;cases z5 with
      |false=>
       go_wp2_with fail;refine(Zx.out _).mono ?_;rintro e w' ⟨rfl,rfl⟩;go_wp2_with fail;go_ret;exact⟨dh (by rw[←HE.out,sV rG.out HU0.out (eP HY.out (qO Z5.out) (by decide) Al.out) (by decide)]),cO.out⟩
      |true=>
       go_wp2_with fail;refine(Zx.out _).mono ?_;rintro e w' ⟨rfl,rfl⟩;go_wp2_with fail;refine uZ.out.mono ?_;rintro e w1 ⟨rfl,hb1⟩;have HB1:=Lib.hid (BW.out.trans (hb1.mono BW.out.size));have HB2:=Lib.hid (cO.out.trans (hb1.mono cO.out.size));clear hb1
       by_cases hz0:z6=0
       ·subst hz0;go_wp2_with fail;go_roundg (m.types.length-(kk+1))
        case measure=>omega
        case rel=>exact⟨kk+1,by omega,by omega,by go_num,HB1.out,aside (fO HY.out (jr Z5.out Z6.out) Al.out)⟩
       ·have hzn:(z6 !=0)=true:=by simp[hz0]
        go_wp2_with fail;go_ret;exact⟨dh (by rw[←HE.out,sV rG.out HU0.out (eP HY.out (jr Z5.out Z6.out) hz0 Al.out) hz0]),HB2.out⟩
     ·have hltz:¬(kk:Int)<(m.types.length:Int):=by omega
      obtain rfl:kk=m.types.length:=by omega
      have HT0:=Lib.hid (fM Al.out);obtain⟨W2,rfl⟩:∃W2,W2=wr:=⟨_,rfl⟩;have HB2:=Lib.hid (HB.out.later BW.out HB.out.lt);have cO:=ah hbw;clear Al hbw BW;go_wp2_with fail;go_loopg [6,7] m.funcs.length (fun gg s6 _ wr=>∃kk:Nat,kk≤m.funcs.length∧m.funcs.length-kk≤gg∧s6=.int .i64 kk∧Aside (Below W2.heap.size W2 wr)∧Aside (∀j,j<kk→∀y,m.funcs[j]? =some y→jg y=0))
      case atStart=>exact⟨0,Nat.zero_le _,by omega,rfl,Below.refl _ _,aside (fun j hj=>absurd hj (Nat.not_lt_zero _))⟩
      case round=>
       obtain⟨kk,hkk,hg,rfl,BW,Al⟩:=hrel;have hBr:=HB2.out.later BW.out HB2.out.lt;have y2:=hBr.at_ 2 _ rfl;have hbw:=cO.out.trans (BW.out.mono cO.out.size);clear hBr
       by_cases hlt:kk<m.funcs.length
       ·have hltz:(kk:Int)<(m.funcs.length:Int):=by omega
        obtain⟨b1,off,cs,rfl,jc,hcs,hr1,hcell⟩:=(HFn.out.up dF.stays hF hbw).at_ hlt;have hy:=aK hlt;generalize m.funcs[kk]=y at*;have Lj:=NU y cs F wr (bg hF hbw) hr1;obtain⟨P1,p1,a,b,c,d,e,f,g,i,j,rfl,_⟩:=dF.form hr1;have hc0:=hcell 0 _ rfl;have hc1:=hcell 1 _ rfl;have hc2:=hcell 2 _ rfl;have hc3:=hcell 3 _ rfl;have hc4:=hcell 4 _ rfl;have hc5:=hcell 5 _ rfl;have hc6:=hcell 6 _ rfl;have QT:=hcell 7 _ rfl;have hc8:=hcell 8 _ rfl;have QU:=hcell 9 _ rfl;have xZ:=hcell 10 _ rfl;have yc:=hcell 11 _ rfl;simp only[Nat.add_zero]at hc0;obtain⟨z6,ET⟩:∃z,jg y=z:=⟨_,rfl⟩;rw[ET]at Lj;obtain⟨HY,uZ,Z6,BO⟩:=au hy Lj ET hbw;clear hy Lj ET hcell hr1 hcs hbw
        by_cases hz0:z6=0
        ·subst hz0;go_wp2_with fail;refine uZ.out.mono ?_;rintro e w1 ⟨rfl,hb1⟩;have HB1:=Lib.hid (BW.out.trans (hb1.mono BW.out.size));clear hb1;go_wp2_with fail;go_roundg (m.funcs.length-(kk+1))
         case measure=>omega
         case rel=>exact⟨kk+1,by omega,by omega,by go_num,HB1.out,aside (fO HY.out Z6.out Al.out)⟩
        ·have hzn:(z6 !=0)=true:=by simp[hz0]
         go_wp2_with fail;refine uZ.out.mono ?_;rintro e w1 ⟨rfl,hb1⟩;have HB3:=Lib.hid (BO.out.trans (hb1.mono BO.out.size));clear hb1;go_wp2_with fail;go_ret;exact⟨dh (by rw[←HE.out,sU rG.out HU0.out HT0.out (eP HY.out Z6.out hz0 Al.out)]),HB3.out⟩
       ·have hltz:¬(kk:Int)<(m.funcs.length:Int):=by omega
        obtain rfl:kk=m.funcs.length:=by omega
        go_wp2_with fail;go_ret;exact⟨dh (by rw[←HE.out,sU rG.out HU0.out HT0.out (fM Al.out)]),hbw⟩
end Go.Proofs.YtjaladhdnbhliaaGreatDoor
