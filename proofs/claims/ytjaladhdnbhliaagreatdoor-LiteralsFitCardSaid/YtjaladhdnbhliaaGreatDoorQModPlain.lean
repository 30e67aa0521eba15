/- Parts. -/
import Derived.Test.YtjaladhdnbhliaaGreatDoorQBodyOneG
import Derived.Test.YtjaladhdnbhliaaGreatDoorQFaceChk
set_option maxHeartbeats 8000000
namespace Go.Proofs.YtjaladhdnbhliaaGreatDoor
open Go.Proofs.Tryz
open Go.RowKit
def zM(m:Module)(l:List Import)(own:gU)(k:Nat):List og:=match m.funcs[k]? with
 |some f=>if oI m l own k=0 then[]else[⟨f.name,oI m l own k⟩]
 |none=> []
def o8(m:Module)(l:List Import)(own:gU)(n:Nat):List og:=(List.range n).flatMap (zM m l own)
def gZ(m:Module)(l:List Import)(n:Nat):List og:=mQ m l++pU m l++o8 m l (lY m l) n
def iq(s:ByteArray)(l:List Import):gU×List og×Int:=
 if bG l≠0 then(pJ,[],bG l)
 else if(kF s).2≠0 then(pJ,[⟨⟨#[]⟩,1⟩],0)
 else(lY (kF s).1 l,gZ (kF s).1 l (kF s).1.funcs.length,0)
def Code(z:Int):Prop:=0≤z∧z≤8
theorem Uh{z:Int}(h:Code z):I64 z:=⟨by have:=h.1;omega,by have:=h.2;omega⟩
theorem iR:Code 0:=⟨by decide,by decide⟩
theorem aaV{α:Type}{g:α→Int}(h:∀x,Code (g x))(l:List α):Code (dL g l):=by
 unfold dL;refine zU iR (fun i=>?_) _;split
 ·exact h _
 ·exact iR
theorem Bc{f:Ex→ByteArray×Int}{fin:List ByteArray→ByteArray×Int}(hf:∀x,Code (f x).2)(hn:∀L,Code (fin L).2)(args:List Ex):Code (gB f fin args).2:=by
 unfold gB;split
 ·exact aaV (g:=fun a=>(f a).2) hf args
 ·exact hn _
theorem UW{m:Module}{l:List Import}{own:gU}{ps:List Known}:∀(n:Nat) (x:Ex),Code (ZW m l own ps n x).2
 |0,_=>iR
 |n+1,.mk k v o s args=>by
  have c8:Code 8:=⟨by decide,by decide⟩;have ih:=UW (m:=m) (l:=l) (own:=own) (ps:=ps) n;unfold ZW;split
  ·exact iR
  split
  ·exact iR
  split
  ·unfold nC;split
   ·exact iR
   ·exact⟨by decide,by decide⟩
  split
  ·split
   ·exact⟨by decide,by decide⟩
   split
   ·exact⟨by decide,by decide⟩
   ·refine Bc ih (fun L=>?_) _;unfold yE;split
    ·exact c8
    ·exact iR
  split
  ·refine Bc ih (fun L=>?_) _;unfold D9;split
   ·exact iR
   ·exact c8
  split
  ·refine Bc ih (fun L=>?_) _;unfold oD;split
   ·exact iR
   ·exact c8
  ·refine Bc ih (fun L=>?_) _;unfold atR;split
   ·exact iR
   ·exact c8
theorem IX{m:Module}{l:List Import}(v:ByteArray)(t:Ty):Code (dA m l v t).2:=by
 have:=yK (m:=m) (l:=l) 300 v [] t;exact⟨this.1,by show(bW m l 300 v [] t).2≤8;omega⟩
theorem Vy{m:Module}{l:List Import}(k:Nat):Code (dJ m l k).2:=by
 have c4:Code 4:=⟨by decide,by decide⟩;unfold dJ;split
 ·next f hf=>
  split
  ·exact c4
  ·split
   ·refine zU iR (fun i=>?_) _;unfold nR;split
    ·split
     ·exact c4
     ·exact IX _ _
    ·exact iR
   ·split
    ·exact IX _ _
    ·exact iR
 ·exact iR
theorem Ko{m:Module}{l:List Import}{own:gU}(k:Nat):Code (oI m l own k):=by
 unfold oI;split
 ·split
  ·exact Vy k
  ·unfold bodyEnd;split
   ·exact⟨by decide,by decide⟩
   ·exact UW _ _
 ·exact iR
section
variable {m:Module} {l:List Import} {own:gU} {k:Nat} {f:Func} {s:ByteArray}
theorem Ud(k:Nat):(zM m l own k).length≤1:=by
 unfold zM;split
 ·split<;>simp
 ·simp
theorem Uc(n:Nat):(o8 m l own n).length≤n:=xA _ Ud n
theorem NJ(hf:m.funcs[k]? =some f)(h:oI m l own k=0):o8 m l own (k+1)=o8 m l own k:=by
 unfold o8;rw[iW];unfold zM;rw[hf];simp[h]
theorem QG(hf:m.funcs[k]? =some f)(h:oI m l own k≠0):o8 m l own (k+1)=o8 m l own k++ [⟨f.name,oI m l own k⟩]:=by
 unfold o8;rw[iW];unfold zM;rw[hf];simp[h]
theorem yR:gZ m l 0=mQ m l++pU m l:=by simp[gZ,o8]
theorem Nv(hf:m.funcs[k]? =some f)(h:oI m l (lY m l) k=0):gZ m l (k+1)=gZ m l k:=by unfold gZ;rw[NJ hf h]
theorem Qw(hf:m.funcs[k]? =some f)(h:oI m l (lY m l) k≠0):gZ m l (k+1)=gZ m l k++ [⟨f.name,oI m l (lY m l) k⟩]:=by unfold gZ;rw[QG hf h];simp
theorem tK(hm:dD m=0)(hk:k≤m.funcs.length):(gZ m l k).length≤48:=by
 have ng:=gJ hm;have h1:=um m l m.uses.length;have h2:(pU m l).length≤m.types.length:=zL _;have h3:=Uc (m:=m) (l:=l) (own:=lY m l) k;unfold gZ mQ;rw[List.length_append,List.length_append];omega
theorem BX(h:bG l≠0):iq s l=(pJ,[],bG l):=by unfold iq;rw[if_pos h]
theorem sN(h:bG l=0)(hr:(kF s).2≠0):iq s l=(pJ,[⟨⟨#[]⟩,1⟩],0):=by unfold iq;rw[if_neg (by simp[h]),if_pos hr]
theorem EF(h:bG l=0)(hr:(kF s).2=0):iq s l=(lY (kF s).1 l,gZ (kF s).1 l (kF s).1.funcs.length,0):=by unfold iq;rw[if_neg (by simp[h]),if_neg (by simp[hr])]
end
open Go.Shelf
set_option maxRecDepth 100000 in
theorem Gs(v:Value)(l:List Import)(F:aV)(w:World)(hF:∀k,F k→k<w.heap.size)(hv:SliceOf aU 4 72 w F v l):
  Calls prog 43 #[v] w fun e w'=>e=.returned (.int .i64 (bG l))∧Below w.heap.size w w':=by
 obtain⟨A,cap,rfl,_,_,hl1,_⟩:=hv.form;obtain⟨E,hE⟩:∃z,(bG l)=z:=⟨_,rfl⟩;rw[hE]at⊢;have HE:=Lib.hid hE;clear hE
 by_cases ng:24<l.length
 ·have KL:(24:Int)<(l.length:Int):=by omega
  obtain rfl:E=1:=by rw[←HE.out];simp[bG,ng]
  clear hv;go_enter func43,ntmps43;go_wp2_with fail;go_ret;exact⟨rfl,Below.refl _ _⟩
 ·have KL:¬(24:Int)<(l.length:Int):=by omega
  obtain⟨rG,HV⟩:=aj ng hv;clear ng hv;go_enter func43,ntmps43;go_wp2_with fail;go_loopg [3,5,11] l.length (fun gg _ _ s11 wr=>∃kk:Nat,kk≤l.length∧l.length-kk≤gg∧s11=.int .i64 kk∧Aside (Below w.heap.size w wr)∧Aside (∀j,j<kk→dQ Import.name eu l j=0))
  case atStart=>exact⟨0,Nat.zero_le _,by omega,rfl,Below.refl _ _,aside (fun j hj=>absurd hj (Nat.not_lt_zero _))⟩
  case round=>
   obtain⟨kk,hkk,hg,rfl,BW,Al⟩:=hrel
   by_cases hlt:kk<l.length
   ·have hltz:(kk:Int)<(l.length:Int):=by omega
    have hat:=HV.out.up aU.stays hF BW.out;obtain⟨b1,off,cs,rfl,hb,hcs,hr,hcell⟩:=hat.at_ hlt;have hx:=aK hlt;generalize l[kk]=x at*;obtain⟨T3,e3,T4,e4,rfl⟩:=aU.form hr;have hc0:=hcell 0 _ rfl;have hc1:=hcell 1 _ rfl;have hc2:=hcell 2 _ rfl;have hc3:=hcell 3 _ rfl;simp only[Nat.add_zero]at hc0;have hFr:=bg hF BW.out;have hnm:=fun W=>iV x.name W (aU.ael hr)
    have hfc:=fun(U:World) (hU:Below wr.heap.size wr U)=>NS x.face [.slice T3 x.face.types.length e3,.slice T4 x.face.funcs.length e4] F U (bg hFr hU) (bD.stays.later (aU.face hr) hU hFr)
    obtain⟨_,_,hq1,ht1,ht2⟩:=aU.face hr;injection hq1 with hq1 hq2
    injection hq2 with hq2 _
    subst hq1;subst hq2;obtain⟨_,_,_,_,_,hty,_⟩:=ht1.form;obtain⟨_,_,_,_,_,hfy,_⟩:=ht2.form;obtain⟨z1,hz1⟩:∃z,(aX x.name)=z:=⟨_,rfl⟩;rw[hz1]at hnm;have Z1:=Lib.hid hz1;clear hz1;obtain⟨z2,hz2⟩:∃z,(fF x.face)=z:=⟨_,rfl⟩;rw[hz2]at hfc;have Z2:=Lib.hid hz2;clear hz2;obtain⟨z3,hz3⟩:∃z,(x.there)=z:=⟨_,rfl⟩;rw[hz3]at hc1;have Z3:=Lib.hid hz3;clear hz3;obtain⟨HX,HN,HFC,HAT⟩:=au hx hnm hfc hat;clear hx hnm hfc hat;clear hcell hcs hr ht1 ht2 hFr;go_upto_region 6 with fail
    have hBb:=Box.made wr 68 #[.string x.name,.bool z3,.slice T3 x.face.types.length e3,.slice T4 x.face.funcs.length e4];have hbb:Below wr.heap.size wr (wr.alloc (.cells #[.string x.name,.bool z3,.slice T3 x.face.types.length e3,.slice T4 x.face.funcs.length e4] 68)):=by go_grown
    have hzb:(wr.alloc (.cells #[.string x.name,.bool z3,.slice T3 x.face.types.length e3,.slice T4 x.face.funcs.length e4] 68)).heap.size=wr.heap.size+1:=by simp
    generalize wr.alloc (.cells #[.string x.name,.bool z3,.slice T3 x.face.types.length e3,.slice T4 x.face.funcs.length e4] 68)=W2 at hBb hbb hzb⊢;have n0:=hBb.at_ 0 _ rfl;obtain⟨HBb,Hbb,Hzb⟩:=ak hBb hbb hzb;clear hBb hbb hzb;go_wp2_with fail;refine(HN.out _).mono ?_;rintro e W3 ⟨rfl,hb3⟩;have hB3:=HBb.out.later hb3 HBb.out.lt;have m2:=hB3.at_ 2 _ rfl;have m3:=hB3.at_ 3 _ rfl;have HB3:=Lib.hid (Hbb.out.trans (hb3.mono Hbb.out.size));have ajk:=ah hB3;clear hB3 hb3 n0 hc0 hc1 hc2 hc3;cases z1 with
    |false=>
     go_wp2_with fail;go_ret;exact⟨dh (by rw[←HE.out];exact(gy rG.out hlt Al.out (gW HX.out (l9 Z1.out) (by decide)) (by decide)).symm),BW.out.trans (HB3.out.mono BW.out.size)⟩
    |true=>
    go_wp2_with fail;refine(HFC.out _ HB3.out).mono ?_;rintro e W4 ⟨rfl,hb4⟩;have hB4:=ajk.out.later hb4 ajk.out.lt;clear m2 m3;have n0:=hB4.at_ 0 _ rfl;have n1:=hB4.at_ 1 _ rfl;have n2:=hB4.at_ 2 _ rfl;have n3:=hB4.at_ 3 _ rfl;have pY:=Lib.hid (BW.out.trans ((HB3.out.trans (hb4.mono HB3.out.size)).mono BW.out.size));have apF:=ah hB4;clear hB4 hb4
    by_cases hz:z2=0
    ·subst hz;go_upto_region 11 with fail
     go_cut [40] (fun s40 wc=>∃z:Bool,s40=.bool z∧W4=wc∧Aside (eu x=if z then 4 else 0))
     case first=>
      cases z3 with
      |false=>
       cases hq:decide (0<(x.face.types.length:Int)+(x.face.funcs.length:Int));all_goals
        go_wp2_with fail;go_meet;refine⟨_,rfl,rfl,aside ?_⟩
       ·have hqq:=of_decide_eq_false hq;rw[yh Z1.out Z2.out (.inr (by omega))];simp<;>omega
       ·have hqq:=of_decide_eq_true hq;rw[yV Z1.out Z2.out Z3.out (by omega)];simp<;>omega
      |true=>
       go_wp2_with fail;go_meet;exact⟨_,rfl,rfl,aside (by rw[yh Z1.out Z2.out (.inl Z3.out)];rfl)⟩
     case rest=>
     obtain⟨z,rfl,rfl,hkz⟩:=hcut;cases z with
     |true=>
      go_wp2_with fail;go_ret;exact⟨dh (by rw[←HE.out];exact(gy rG.out hlt Al.out (gW HX.out hkz.out (by decide)) (by decide)).symm),pY.out⟩
     |false=>
     have HTW:=Lib.hid (HV.out.up aU.stays hF pY.out);have HG:=Lib.hid (show eu x=0 from hkz.out);clear hkz n1 n2 n3;go_upto_region 13 with fail
     go_cut [53] (fun s53 wc=>∃z:Bool,s53=.bool z∧Aside (Below W4.heap.size W4 wc)∧Aside (dQ Import.name eu l kk=if z then 7 else 0))
     case first=>
      by_cases h0:0<kk
      ·have h0z:(0:Int)<(kk:Int):=by omega
       obtain⟨b2,off2,cs2,e2,hb2,_,hr2,hcell2⟩:=(HTW.out.at_ (k:=kk-1) (by omega));obtain⟨T5,e5,T6,e6,rfl⟩:=aU.form hr2;injection e2 with e2
       injection e2 with e2 e3 _
       subst e2;subst e3;have hd0:=hcell2 0 _ rfl;simp only[Nat.add_zero]at hd0;have hy:=aK (show kk-1<l.length by omega);generalize l[kk-1]=y at*;have HY:=ah hy;have HI:=Lib.hid (jS (name:=Import.name) (bad:=eu) h0 HX.out HY.out HG.out);have hi1:IntKind.i64.wrap ((kk:Int)-1)=(kk:Int)-1:=IntWalk.i64_in _ (by omega);have hi2:(0:Int)≤(kk:Int)-1:=by omega
       have hi3:((kk:Int)-1).toNat=kk-1:=by omega
       have hi4:(kk:Int)-1<(l.length:Int):=by omega
       clear hcell2 hy;cases hq:nT y.name x.name;all_goals
        have HQ:=ah hq;have hless:Op.bytesLess y.name.toList x.name.toList=_:=hq;clear hq;go_wp2_with fail;go_quiet(fail);go_wp2_with fail;go_meet;exact⟨_,rfl,aside (below_drewN (Below.refl _ _) _),aside (by rw[HI.out,HQ.out];rfl)⟩
      ·have h0z:decide ((0:Int)<(kk:Int))=false:=decide_eq_false (by omega);have HI:=Lib.hid (show dQ Import.name eu l kk=0 by
        have e:kk=0:=by omega
        have h:=HX.out;rw[e]at h⊢;exact jv h HG.out)
       go_wp2_with fail;go_quiet(fail);go_wp2_with fail;go_meet;exact⟨_,rfl,aside (below_drewN (Below.refl _ _) _),aside (by rw[HI.out];rfl)⟩
     case rest=>
     obtain⟨z,rfl,hb5,hiz⟩:=hcut;obtain⟨W5,rfl⟩:∃W,W=wc:=⟨_,rfl⟩;have HBy:=Lib.hid (pY.out.trans (hb5.out.mono pY.out.size));cases z with
     |true=>
      go_wp2_with fail;go_ret;exact⟨dh (by rw[←HE.out];exact(gy rG.out hlt Al.out hiz.out (by decide)).symm),HBy.out⟩
     |false=>
      go_wp2_with fail;go_roundg (l.length-(kk+1))
      case measure=>omega
      case rel=>exact⟨kk+1,by omega,by omega,by go_num,HBy.out,aside (jG Al.out hiz.out)⟩
    ·have hzn:(z2 !=0)=true:=by simp[hz]
     go_wp2_with fail;go_ret;exact⟨dh (by rw[←HE.out];exact(gy rG.out hlt Al.out (gW HX.out (l7 Z1.out Z2.out hz) hz) hz).symm),pY.out⟩
   ·have hltz:¬(kk:Int)<(l.length:Int):=by omega
    obtain rfl:kk=l.length:=by omega
    go_wp2_with fail;go_ret;exact⟨dh (by rw[←HE.out];exact(yX rG.out Al.out).symm),BW.out⟩
end Go.Proofs.YtjaladhdnbhliaaGreatDoor
