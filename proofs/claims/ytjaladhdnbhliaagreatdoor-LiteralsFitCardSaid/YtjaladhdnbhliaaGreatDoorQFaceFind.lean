/- Parts. -/
import Derived.Test.YtjaladhdnbhliaaGreatDoorQShelf
import Derived.Test.YtjaladhdnbhliaaGreatDoorQFaceErr
import Derived.Test.YtjaladhdnbhliaaGreatDoorQTreeChk
import Derived.Test.YtjaladhdnbhliaaGreatDoorQRoundP
set_option maxHeartbeats 4000000
set_option maxRecDepth 100000
namespace Go.Proofs.YtjaladhdnbhliaaGreatDoor
open Go.Proofs.Tryz
open Go.RowKit Go.Shelf
theorem PI{α:Type}{f:α→ByteArray}{l:List α}{t:ByteArray}{i:Nat}(h:Ji f l t i=true):∃x,l[i]? =some x∧decide (f x=t)=true:=by
 unfold Ji at h;cases hx:l[i]? with
 |none=>rw[hx]at h;cases h
 |some x=>rw[hx]at h;exact⟨x,rfl,h⟩
theorem KX{α:Type}{f:α→ByteArray}{l:List α}{t:ByteArray}{i:Nat}(h:Ji f l t i=false):∀x,l[i]? =some x→decide (f x=t)=false:=by
 intro x hx;unfold Ji at h;rw[hx]at h;exact h
def iO(l:List Known)(t:ByteArray):ByteArray×Int:=match named Known.name l t with|some x=>(x.dV,0)|none=>(⟨#[]⟩,6)
theorem I7{l:List Known}{t:ByteArray}{x:Known}(h:named Known.name l t=some x):iO l t=(x.dV,0):=by unfold iO;rw[h]
theorem I5{l:List Known}{t:ByteArray}(h:named Known.name l t=none):iO l t=(⟨#[]⟩,6):=by unfold iO;rw[h]
theorem abV(x:Known)(t:ByteArray)(w:World):Calls prog 56 #[.agg #[.string x.name,.string x.dV],.string t] w fun e w'=>e=.returned (.int .i64 (Lib.compareBytes x.name.data.toList t.data.toList))∧Below w.heap.size w w':=by
 have hc:=fun W=>Tryz.strings_Compare x.name t W
 generalize Lib.compareBytes x.name.data.toList t.data.toList=z at hc⊢;have HC:=ah hc;clear hc;go_enter func56,ntmps56;go_wp2_with(go_at_call 57;refine(HC.out _).mono ?_;rintro e w' ⟨rfl,rfl⟩);go_ret;exact⟨rfl,by go_grown⟩
theorem EK(a:gU)(t:ByteArray)(cs:List Value)(F:aV)(w:World)(hF:∀k,F k→k<w.heap.size)(ha:bD w F cs a)(hR:nN Known.name a.types):
  Calls prog 25 #[.agg cs.toArray,.string t] w fun e w'=>e=.returned (.tuple #[.string (iO a.types t).1,.int .i64 (iO a.types t).2])∧Below w.heap.size w w':=by
 obtain⟨tv,fv,rfl,ht,hf⟩:=ha;have hs:=fun(U:World) (hU:Below w.heap.size w U)=>Oh tv a.types F t 56 #[] U (enters_of func56 (by kernel_rfl) rfl) (bg hF hU) (ht.up aW.stays hF hU)
  (fun W x cs _ _ hx=>by obtain⟨rfl,_⟩:=hx;exact abV x t W)
 obtain⟨A1,c1,rfl,_,_,hl1,_⟩:=ht.form;obtain⟨A3,c3,rfl,_,_,hl3,_⟩:=hf.form;obtain⟨E1,hE1⟩:∃E,(iO a.types t).1=E:=⟨_,rfl⟩;obtain⟨E2,hE2⟩:∃E,(iO a.types t).2=E:=⟨_,rfl⟩;rw[hE1,hE2];obtain⟨HS,vk,HE2,HR⟩:=au hs hE1 hE2 hR;clear hs hE1 hE2 hR hf;go_enter func25,ntmps25;go_wp2_with fail;have hB:=Box.made w 42 #[.slice A1 a.types.length c1,.slice A3 a.funcs.length c3];have hb0:Below w.heap.size w (w.alloc (.cells #[.slice A1 a.types.length c1,.slice A3 a.funcs.length c3] 42)):=by go_grown
 generalize w.alloc (.cells #[.slice A1 a.types.length c1,.slice A3 a.funcs.length c3] 42)=W1 at hB hb0⊢;refine(HS.out _ hb0).mono ?_;rintro e w' ⟨i,hP,rfl,hb⟩;have hB1:=hB.later hb hB.lt;have hb1:=hb0.trans (hb.mono hb0.size);have a0:=hB1.at_ 0 _ rfl;have HB:=ah hb1;cases hh:Ji Known.name a.types t i with
 |false=>
  have hn:=I5 (hP.miss HR.out (KX hh));have h1:=vk.out;have h2:=HE2.out;rw[hn]at h1 h2;subst h1;subst h2;clear hb hb0 hb1 hB hB1 hh hP hn ht;go_wp2_with fail
  go_ret2
  exact⟨rfl,HB.out⟩
 |true=>
  obtain⟨x,hx,hd⟩:=PI hh;have hn:=I7 (hP.hit HR.out hx hd);have h1:=vk.out;have h2:=HE2.out;rw[hn]at h1 h2;subst h1;subst h2;have hil:=(List.getElem?_eq_some_iff.1 hx).1;have an6:(i:Int)<(a.types.length:Int):=by omega
  obtain⟨b1,off,cs,rfl,_,_,⟨rfl,_⟩,hcell⟩:=(ht.up aW.stays hF hb1).at_ hil;have hc1:=hcell 1 _ rfl;rw[(List.getElem?_eq_some_iff.1 hx).2]at hc1;clear hb hb0 hb1 hB hB1 hh hP hn ht hcell hx hd;go_wp2_with fail
  go_ret2
  exact⟨rfl,HB.out⟩
theorem Zm(a:gU)(t:ByteArray)(cs:List Value)(F:aV)(w:World)(hF:∀k,F k→k<w.heap.size)(ha:bD w F cs a):
  Calls prog 230 #[.agg cs.toArray,.string t] w fun e w'=>e=.returned (.tuple #[.string (iO a.types t).1,.int .i64 (iO a.types t).2])∧Below w.heap.size w w':=by
 obtain⟨tv,fv,rfl,ht,hf⟩:=ha;obtain⟨A1,c1,rfl,_,_,hl1,_⟩:=ht.form;obtain⟨A3,c3,rfl,_,_,hl3,_⟩:=hf.form;obtain⟨E1,hE1⟩:∃E,(iO a.types t).1=E:=⟨_,rfl⟩;obtain⟨E2,hE2⟩:∃E,(iO a.types t).2=E:=⟨_,rfl⟩;rw[hE1,hE2];obtain⟨vk,HE2⟩:=aj hE1 hE2;clear hE1 hE2 hf;go_enter func230,ntmps230;go_wp2_with fail;have hB:=Box.made w 42 #[.slice A1 a.types.length c1,.slice A3 a.funcs.length c3];have hb0:Below w.heap.size w (w.alloc (.cells #[.slice A1 a.types.length c1,.slice A3 a.funcs.length c3] 42)):=by go_grown
 generalize w.alloc (.cells #[.slice A1 a.types.length c1,.slice A3 a.funcs.length c3] 42)=W1 at hB hb0⊢;have a0:=hB.at_ 0 _ rfl;have HB:=ah hb0;clear hB hb0;go_loopg [6] a.types.length (fun gg s6 wr=>∃kk:Nat,kk≤a.types.length∧a.types.length-kk≤gg∧s6=.int .i64 kk∧W1=wr∧Aside (∀j,j<kk→∀y,a.types[j]? =some y→decide (y.name=t)=false))
 case atStart=>exact⟨0,Nat.zero_le _,by omega,rfl,rfl,aside (fun j hj=>absurd hj (Nat.not_lt_zero _))⟩
 case round=>
  obtain⟨kk,hkk,hg,rfl,rfl,Al⟩:=hrel
  by_cases hlt:kk<a.types.length
  ·have hltz:(kk:Int)<(a.types.length:Int):=by omega
   obtain⟨b1,off,cs,rfl,_,_,⟨rfl,_⟩,hcell⟩:=(ht.up aW.stays hF HB.out).at_ hlt;have hc0:=hcell 0 _ rfl;have hc1:=hcell 1 _ rfl;simp only[Nat.add_zero]at hc0;have hx:=aK hlt;generalize a.types[kk]=x at*;have HX:=ah hx;clear hx hcell ht;cases hq:decide (x.name=t)with
   |true=>
    have hE:(x.name.toList==t.toList)=true:=by rw[str_eq];exact hq
    have hn:=I7 (Hf HX.out hq Al.out);have h1:=vk.out;have h2:=HE2.out;rw[hn]at h1 h2;subst h1;subst h2;clear hq hn;go_wp2_with fail
    go_ret2
    exact⟨rfl,HB.out⟩
   |false=>
    have hE:(x.name.toList==t.toList)=false:=by rw[str_eq];exact hq
    have HQ:=ah hq;clear hq;go_wp2_with fail;go_roundg (a.types.length-(kk+1))
    case measure=>omega
    case rel=>exact⟨kk+1,by omega,by omega,by go_num,rfl,aside (qG HX.out HQ.out Al.out)⟩
  ·have hltz:¬(kk:Int)<(a.types.length:Int):=by omega
   obtain rfl:kk=a.types.length:=by omega
   have hn:=I5 (DT Al.out);have h1:=vk.out;have h2:=HE2.out;rw[hn]at h1 h2;subst h1;subst h2;clear hn ht;go_wp2_with fail
   go_ret2
   exact⟨rfl,HB.out⟩
theorem oJ{a:gU}(h:fF a=0):nN Known.name a.types∧nN kR.name a.funcs∧(∀x∈a.types,eY x=0)∧(∀x∈a.funcs,kP x=0):=by
 unfold fF at h;split at h
 ·cases h
 ·split at h
  ·next h1=>
   exact⟨Ak (gq h1),Ak (gq h),ny (gq h1),ny (gq h)⟩
  ·next h1=>exact absurd h h1
def eu(x:Import):Int:=
 if aX x.name=false then 4
 else if fF x.face≠0 then fF x.face
 else if x.there=false∧(0<x.face.types.length∨0<x.face.funcs.length)then 4 else 0
def bG(l:List Import):Int:=if 24<l.length then 1 else gV (dQ Import.name eu l) l.length
theorem l9{x:Import}(h:aX x.name=false):eu x=4:=by unfold eu;rw[if_pos h]
theorem l7{x:Import}{z:Int}(h:aX x.name=true)(h2:fF x.face=z)(h3:z≠0):eu x=z:=by
 subst h2;unfold eu;rw[if_neg (by rw[h];decide),if_pos h3]
theorem yV{x:Import}(h:aX x.name=true)(h2:fF x.face=0)(h3:x.there=false)(h4:0<x.face.types.length∨0<x.face.funcs.length):eu x=4:=by
 unfold eu;rw[if_neg (by rw[h];decide),if_neg (by rw[h2];decide),if_pos ⟨h3,h4⟩]
theorem yh{x:Import}(h:aX x.name=true)(h2:fF x.face=0)(h3:x.there=true∨(x.face.types.length=0∧x.face.funcs.length=0)):eu x=0:=by
 unfold eu;rw[if_neg (by rw[h];decide),if_neg (by rw[h2];decide),if_neg];rintro⟨a,b⟩;rcases h3 with h3|h3
 ·rw[h3]at a;cases a
 ·omega
theorem gy{l:List Import}{k:Nat}{e:Int}(ng:¬24<l.length)(hk:k<l.length)(hb:∀j,j<k→dQ Import.name eu l j=0)(h:dQ Import.name eu l k=e)(h0:e≠0):bG l=e:=by
 unfold bG;rw[if_neg ng,mZ hk hb (by rw[h];exact h0),h]
theorem yX{l:List Import}(ng:¬24<l.length)(hb:∀j,j<l.length→dQ Import.name eu l j=0):bG l=0:=by
 unfold bG;rw[if_neg ng,fK hb]
theorem GV(v:Value)(l:List Import)(F:aV)(w:World)(hF:∀k,F k→k<w.heap.size)(hv:SliceOf aU 4 72 w F v l):
  Calls prog 48 #[v] w fun e w'=>e=.returned (.int .i64 (bG l))∧Below w.heap.size w w':=by
 obtain⟨A,cap,rfl,_,_,hl1,_⟩:=hv.form;obtain⟨E,hE⟩:∃E,bG l=E:=⟨_,rfl⟩;rw[hE]
 by_cases ng:24<l.length
 ·have KL:(24:Int)<(l.length:Int):=by omega
  obtain rfl:E=1:=by rw[←hE];simp[bG,ng]
  clear hE hv;go_enter func48,ntmps48;go_wp2_with fail;go_ret;exact⟨rfl,Below.refl _ _⟩
 ·have KL:¬(24:Int)<(l.length:Int):=by omega
  have HE:=ah hE;have rG:=ah ng;clear hE ng;go_enter func48,ntmps48;go_wp2_with fail;go_loopg [3,4] l.length (fun gg s3 _ wr=>∃kk:Nat,kk≤l.length∧l.length-kk≤gg∧s3=.int .i64 kk∧Aside (Below w.heap.size w wr)∧Aside (∀j,j<kk→dQ Import.name eu l j=0))
  case atStart=>exact⟨0,Nat.zero_le _,by omega,rfl,Below.refl _ _,aside (fun j hj=>absurd hj (Nat.not_lt_zero _))⟩
  case round=>
   obtain⟨kk,hkk,hg,rfl,BW,Al⟩:=hrel
   by_cases hlt:kk<l.length
   ·have hltz:(kk:Int)<(l.length:Int):=by omega
    have hat:=hv.up aU.stays hF BW.out;obtain⟨b1,off,cs,rfl,hb,hcs,hr,hcell⟩:=hat.at_ hlt;have hx:=aK hlt;generalize l[kk]=x at*;have hn:=hr.ael;obtain⟨X1,x1,X2,x2,rfl⟩:=aU.form hr;have hc0:=hcell 0 _ rfl;have hc1:=hcell 1 _ rfl;have hc2:=hcell 2 _ rfl;have hc3:=hcell 3 _ rfl;simp only[Nat.add_zero]at hc0;have hFr:=bg hF BW.out;have hbl:=hFr _ hb;have Bh:=NT x.face _ F wr hFr hr.face;obtain⟨z2,hz2⟩:∃z,fF x.face=z:=⟨_,rfl⟩;rw[hz2]at Bh;obtain⟨HX,HT,TF,Z2⟩:=au hx hat Bh hz2;have hnm:=fun W=>fU x.name W hn
    obtain⟨z1,hz1⟩:∃z,aX x.name=z:=⟨_,rfl⟩;rw[hz1]at hnm;obtain⟨Z1,HN⟩:=aj hz1 hnm;clear hx hcell hat hnm hz1 Bh hz2 hr hFr;cases z1 with
    |false=>
     go_wp2_with(go_at_call 98;refine(HN.out _).mono ?_;rintro e w' ⟨rfl,rfl⟩);go_ret;exact⟨dh (by rw[←HE.out];exact(gy rG.out hlt Al.out (gW HX.out (l9 Z1.out) (by decide)) (by decide)).symm),BW.out⟩
    |true=>
     go_wp2_with fail;refine(HN.out _).mono ?_;rintro e w' ⟨rfl,rfl⟩;go_wp2_with fail;refine TF.out.mono ?_;rintro e w1 ⟨rfl,hb1⟩;have hc0':=(hb1.cell (p:=⟨b1,off+kk*4,none⟩) hbl).trans hc0;have hc1':=(hb1.cell (p:=⟨b1,off+kk*4+1,none⟩) hbl).trans hc1;have hc2':=(hb1.cell (p:=⟨b1,off+kk*4+2,none⟩) hbl).trans hc2;have an1:=(hb1.cell (p:=⟨b1,off+kk*4+3,none⟩) hbl).trans hc3;have HB1:=ah hb1;have cO:=Lib.hid (BW.out.trans (hb1.mono BW.out.size));clear hb1 hc0 hc1 hc2 hc3
     by_cases hz:z2=0
     ·subst hz
      by_cases ht:x.there=false∧(0<x.face.types.length∨0<x.face.funcs.length)
      ·have hB:=Lib.hid (yV Z1.out Z2.out ht.1 ht.2);rw[ht.1]at hc1'
       by_cases h1:0<x.face.types.length
       ·have h1z:(0:Int)<(x.face.types.length:Int):=by omega
        clear ht;go_wp2_with fail;go_ret;exact⟨dh (by rw[←HE.out];exact(gy rG.out hlt Al.out (gW HX.out hB.out (by decide)) (by decide)).symm),cO.out⟩
       ·have h1z:¬(0:Int)<(x.face.types.length:Int):=by omega
        have h2z:(0:Int)<(x.face.funcs.length:Int):=by omega
        clear ht;go_wp2_with fail;go_ret;exact⟨dh (by rw[←HE.out];exact(gy rG.out hlt Al.out (gW HX.out hB.out (by decide)) (by decide)).symm),cO.out⟩
      ·have HG:=Lib.hid (yh Z1.out Z2.out (by
        cases hth:x.there with
        |true=>exact .inl rfl
        |false=>
         refine .inr ⟨?_,?_⟩
         ·rcases Nat.eq_zero_or_pos x.face.types.length with h|h
          ·exact h
          ·exact absurd ⟨hth,.inl h⟩ ht
         ·rcases Nat.eq_zero_or_pos x.face.funcs.length with h|h
          ·exact h
          ·exact absurd ⟨hth,.inr h⟩ ht))
       cases hth:x.there with
       |true=>
        rw[hth]at hc1';clear ht
        by_cases h0:0<kk
        ·have h0z:(0:Int)<(kk:Int):=by omega
         obtain⟨b2,off2,cs2,e2,hb2,_,hr2,hcell2⟩:=HT.out.at_ (k:=kk-1) (by omega);injection e2 with e2
         injection e2 with e2 e3 _
         subst e2;subst e3;obtain⟨Y1,y1,Y2,y2,rfl⟩:=aU.form hr2;have hd0:=(HB1.out.cell (p:=⟨b1,off+(kk-1)*4+0,none⟩) hbl).trans (hcell2 0 _ rfl);simp only[Nat.add_zero]at hd0;have hy:=aK (show kk-1<l.length by omega);generalize l[kk-1]=y at*;have HY:=ah hy;have HI:=Lib.hid (jS (name:=Import.name) (bad:=eu) h0 HX.out HY.out HG.out);have hi1:IntKind.i64.wrap ((kk:Int)-1)=(kk:Int)-1:=IntWalk.i64_in _ (by omega);have hi2:(0:Int)≤(kk:Int)-1:=by omega
         have hi3:((kk:Int)-1).toNat=kk-1:=by omega
         have hi4:(kk:Int)-1<(l.length:Int):=by omega
         have qB:=Jz x.name y.name;clear hcell2 hy hr2;cases hq:nT y.name x.name with
         |true=>
          rw[hq]at qB;have HQ:=ah hq;clear hq;have KY:(Op.bytesLess x.name.toList y.name.toList||x.name.toList==y.name.toList)=false:=qB;clear qB;go_wp2_with fail;go_quiet(fail);go_wp2_with fail;go_roundg (l.length-(kk+1))
          case measure=>omega
          case rel=>exact⟨kk+1,by omega,by omega,by go_num,below_drewN cO.out _,aside (jG Al.out (by rw[HI.out,HQ.out];rfl))⟩
         |false=>
          rw[hq]at qB;have HQ:=ah hq;clear hq;have KY:(Op.bytesLess x.name.toList y.name.toList||x.name.toList==y.name.toList)=true:=qB;clear qB;go_wp2_with fail;go_quiet(fail);go_wp2_with fail;go_ret;exact⟨dh (by rw[←HE.out];exact(gy rG.out hlt Al.out (by rw[HI.out,HQ.out];rfl) (by decide)).symm),below_drewN cO.out _⟩
        ·have h0z:decide ((0:Int)<(kk:Int))=false:=by simp;omega
         have HI:=Lib.hid (show dQ Import.name eu l kk=0 by
          have e:kk=0:=by omega
          have h:=HX.out;rw[e]at h⊢;exact jv h HG.out)
         go_wp2_with fail;go_quiet(fail);go_wp2_with fail;go_roundg (l.length-(kk+1))
         case measure=>omega
         case rel=>exact⟨kk+1,by omega,by omega,by go_num,below_drewN cO.out _,aside (jG Al.out HI.out)⟩
       |false=>
        have hl0:x.face.types.length=0:=by
         rcases Nat.eq_zero_or_pos x.face.types.length with h|h
         ·exact h
         ·exact absurd ⟨hth,.inl h⟩ ht
        have F8:x.face.funcs.length=0:=by
         rcases Nat.eq_zero_or_pos x.face.funcs.length with h|h
         ·exact h
         ·exact absurd ⟨hth,.inr h⟩ ht
        rw[hth]at hc1';rw[hl0]at hc2';rw[F8]at an1;clear ht hl0 F8
        by_cases h0:0<kk
        ·have h0z:(0:Int)<(kk:Int):=by omega
         obtain⟨b2,off2,cs2,e2,hb2,_,hr2,hcell2⟩:=HT.out.at_ (k:=kk-1) (by omega);injection e2 with e2
         injection e2 with e2 e3 _
         subst e2;subst e3;obtain⟨Y1,y1,Y2,y2,rfl⟩:=aU.form hr2;have hd0:=(HB1.out.cell (p:=⟨b1,off+(kk-1)*4+0,none⟩) hbl).trans (hcell2 0 _ rfl);simp only[Nat.add_zero]at hd0;have hy:=aK (show kk-1<l.length by omega);generalize l[kk-1]=y at*;have HY:=ah hy;have HI:=Lib.hid (jS (name:=Import.name) (bad:=eu) h0 HX.out HY.out HG.out);have hi1:IntKind.i64.wrap ((kk:Int)-1)=(kk:Int)-1:=IntWalk.i64_in _ (by omega);have hi2:(0:Int)≤(kk:Int)-1:=by omega
         have hi3:((kk:Int)-1).toNat=kk-1:=by omega
         have hi4:(kk:Int)-1<(l.length:Int):=by omega
         have qB:=Jz x.name y.name;clear hcell2 hy hr2;cases hq:nT y.name x.name with
         |true=>
          rw[hq]at qB;have HQ:=ah hq;clear hq;have KY:(Op.bytesLess x.name.toList y.name.toList||x.name.toList==y.name.toList)=false:=qB;clear qB;go_wp2_with fail;go_quiet(fail);go_wp2_with fail;go_roundg (l.length-(kk+1))
          case measure=>omega
          case rel=>exact⟨kk+1,by omega,by omega,by go_num,below_drewN cO.out _,aside (jG Al.out (by rw[HI.out,HQ.out];rfl))⟩
         |false=>
          rw[hq]at qB;have HQ:=ah hq;clear hq;have KY:(Op.bytesLess x.name.toList y.name.toList||x.name.toList==y.name.toList)=true:=qB;clear qB;go_wp2_with fail;go_quiet(fail);go_wp2_with fail;go_ret;exact⟨dh (by rw[←HE.out];exact(gy rG.out hlt Al.out (by rw[HI.out,HQ.out];rfl) (by decide)).symm),below_drewN cO.out _⟩
        ·have h0z:decide ((0:Int)<(kk:Int))=false:=by simp;omega
         have HI:=Lib.hid (show dQ Import.name eu l kk=0 by
          have e:kk=0:=by omega
          have h:=HX.out;rw[e]at h⊢;exact jv h HG.out)
         go_wp2_with fail;go_quiet(fail);go_wp2_with fail;go_roundg (l.length-(kk+1))
         case measure=>omega
         case rel=>exact⟨kk+1,by omega,by omega,by go_num,below_drewN cO.out _,aside (jG Al.out HI.out)⟩
     ·have hzn:(z2 !=0)=true:=by simp[hz]
      go_wp2_with fail;go_ret;exact⟨dh (by rw[←HE.out];exact(gy rG.out hlt Al.out (gW HX.out (l7 Z1.out Z2.out hz) hz) hz).symm),cO.out⟩
   ·have hltz:¬(kk:Int)<(l.length:Int):=by omega
    obtain rfl:kk=l.length:=by omega
    go_wp2_with fail;go_ret;exact⟨dh (by rw[←HE.out];exact(yX rG.out Al.out).symm),BW.out⟩
def bU(t:ByteArray)(x:Field):Bool:=iT x.name t
def agL:ByteArray:=⟨#[42]⟩
def bW(m:Module)(l:List Import):Nat→ByteArray→List ByteArray→Ty→ByteArray×Int
 |0,_,_,_=>(⟨#[]⟩,0)
 |n+1,v,us,.mk k o nm args=>
  if k=1 then(pI,0)
  else if k=2 then(nP,0)
  else if k=3 then(match args with
   |[]=>(⟨#[]⟩,0)
   |a::_=>if(bW m l n v us a).2≠0 then(⟨#[]⟩,(bW m l n v us a).2)else if kK (bW m l n v us a).1≠0 then(⟨#[]⟩,5)else(jH (bW m l n v us a).1,0))
  else if o.size≠0 then(if ku m l o=true∧(iO (bZ m l o).types nm).2=0 then((iO (bZ m l o).types nm).1,0)else(⟨#[]⟩,5))
  else if nm=v then(agL,0)
  else match m.types.find? (bU nm)with
   |none=>(⟨#[]⟩,5)
   |some f=>if o9 us nm=true then(⟨#[]⟩,2)else bW m l n ⟨#[]⟩ (us++ [nm]) f.dV
section
variable {m:Module} {l:List Import} {n:Nat} {v nm o:ByteArray} {us:List ByteArray} {args:List Ty} {k:Int}
theorem Ql:bW m l (n+1) v us (.mk 1 o nm args)=(pI,0):=by unfold bW;rw[if_pos rfl]
theorem MQ:bW m l (n+1) v us (.mk 2 o nm args)=(nP,0):=by unfold bW;rw[if_neg (by decide),if_pos rfl]
theorem MN(a:Ty):bW m l (n+1) v us (.mk 3 o nm [a])=if(bW m l n v us a).2≠0 then(⟨#[]⟩,(bW m l n v us a).2)else if kK (bW m l n v us a).1≠0 then(⟨#[]⟩,5)else(jH (bW m l n v us a).1,0):=by
 conv=>lhs;unfold bW
 rw[if_neg (by decide),if_neg (by decide),if_pos rfl]
theorem VI(h:o.size≠0):bW m l (n+1) v us (.mk 4 o nm args)=if ku m l o=true∧(iO (bZ m l o).types nm).2=0 then((iO (bZ m l o).types nm).1,0)else(⟨#[]⟩,5):=by
 conv=>lhs;unfold bW
 rw[if_neg (by decide),if_neg (by decide),if_neg (by decide),if_pos h]
theorem Qm(h:o.size=0)(hv:nm=v):bW m l (n+1) v us (.mk 4 o nm args)=(agL,0):=by
 conv=>lhs;unfold bW
 rw[if_neg (by decide),if_neg (by decide),if_neg (by decide),if_neg (by simp[h]),if_pos hv]
theorem MP(h:o.size=0)(hv:nm≠v)(hf:m.types.find? (bU nm)=none):bW m l (n+1) v us (.mk 4 o nm args)=(⟨#[]⟩,5):=by
 conv=>lhs;unfold bW
 rw[if_neg (by decide),if_neg (by decide),if_neg (by decide),if_neg (by simp[h]),if_neg hv,hf]
theorem IY{f:Field}(h:o.size=0)(hv:nm≠v)(hf:m.types.find? (bU nm)=some f)(hu:o9 us nm=true):bW m l (n+1) v us (.mk 4 o nm args)=(⟨#[]⟩,2):=by
 conv=>lhs;unfold bW
 rw[if_neg (by decide),if_neg (by decide),if_neg (by decide),if_neg (by simp[h]),if_neg hv,hf];simp only[hu,if_true]
theorem MO{f:Field}(h:o.size=0)(hv:nm≠v)(hf:m.types.find? (bU nm)=some f)(hu:o9 us nm=false):bW m l (n+1) v us (.mk 4 o nm args)=bW m l n ⟨#[]⟩ (us++ [nm]) f.dV:=by
 conv=>lhs;unfold bW
 rw[if_neg (by decide),if_neg (by decide),if_neg (by decide),if_neg (by simp[h]),if_neg hv,hf];simp only[hu,Bool.false_eq_true,if_false]
end
def lM(m:Module)(us:List ByteArray):Nat:=m.types.countP fun x=> !(o9 us x.name)
theorem Pz(us:List ByteArray)(x y:ByteArray):o9 (us++ [x]) y=(o9 us y||isS y x):=by simp[o9]
theorem Gy{m:Module}{us:List ByteArray}{nm:ByteArray}{f:Field}(hf:m.types.find? (bU nm)=some f)(hu:o9 us nm=false):lM m (us++ [nm])+1≤lM m us:=by
 have hn:f.name=nm:=by
  have h:=List.find?_some hf;unfold bU at h;rw[afe]at h;exact of_decide_eq_true h
 refine OW (fun x _ h=>?_) ⟨f,List.mem_of_find?_eq_some hf,?_,?_⟩
 ·rw[Pz]at h;cases hx:o9 us x.name
  ·rfl
  ·rw[hx]at h;cases h
 ·rw[Pz,hn];simp[isS]
 ·rw[hn,hu];rfl
def xM(l:List Import):Prop:=∀x∈l,∀y∈x.face.types,y.dV.size≤600
theorem nH{l:List Import}(h:bG l=0):xM l:=by
 intro x hx y hy;unfold bG at h
 by_cases ng:24<l.length
 ·rw[if_pos ng]at h;cases h
 ·rw[if_neg ng]at h;have hb:=ny (gq h) x hx;have hf:fF x.face=0:=by
   refine Classical.byContradiction fun hne=>?_
   by_cases hn:aX x.name=false
   ·rw[l9 hn]at hb;exact absurd hb (by decide)
   ·rw[l7 (by simpa using hn) rfl hne]at hb;exact hne hb
  have hk:=(oJ hf).2.2.1 y hy;unfold eY at hk
  by_cases anK:600<y.dV.size
  ·have:aP y.dV=1:=by unfold aP;rw[if_pos anK]
   rw[this]at hk;simp at hk
  ·omega
theorem Rz{s:ByteArray}(h:kK s=0):(jH s).size≤600:=by
 unfold kK at h;unfold jH
 by_cases h0:aP s=0
 ·rw[if_pos h0]at h⊢
  by_cases h1:598<s.size
  ·rw[if_pos h1]at h;cases h
  ·rw[if_neg h1];simp[listOf,ByteArray.size_append]
   show 1+s.size+1≤600
   omega
 ·rw[if_neg h0]at h;exact absurd h h0
theorem KJ{m:Module}{l:List Import}{t:ByteArray}{x:Import}(h:oz m l t=some x):x∈l:=by
 unfold oz at h;split at h
 ·exact List.mem_of_find?_eq_some h
 ·cases h
theorem SN{m:Module}{l:List Import}(h:xM l)(o nm:ByteArray):(iO (bZ m l o).types nm).1.size≤600:=by
 unfold iO;split
 ·next x hx=>
  unfold bZ at hx;split at hx
  ·next y hy=>exact h y (KJ hy) x (List.mem_of_find?_eq_some hx)
  ·cases hx
 ·exact Nat.zero_le _
theorem oU {m : Module} {l : List Import} (h : xM l) : ∀ (n : Nat) (v : ByteArray) (us : List ByteArray) (t : Ty), (bW m l n v us t).1.size ≤ 600
  | 0, _, _, _ => Nat.zero_le _
  | n + 1, v, us, .mk k o nm args => by
    unfold bW
    split
    · decide
    · split
      · decide
      · split
        · split
          · exact Nat.zero_le _
          · split
            · exact Nat.zero_le _
            · next hh => split
                         · exact Nat.zero_le _
                         · next h3 => exact Rz (by simpa using h3)
        · split
          · split
            · exact SN h o nm
            · exact Nat.zero_le _
          · split
            · decide
            · split
              · exact Nat.zero_le _
              · split
                · exact Nat.zero_le _
                · exact oU h n _ _ _
end Go.Proofs.YtjaladhdnbhliaaGreatDoor
