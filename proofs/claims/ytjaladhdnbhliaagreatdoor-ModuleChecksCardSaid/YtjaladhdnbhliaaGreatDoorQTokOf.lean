/- Parts. -/
import Derived.Test.YtjaladhdnbhliaaGreatDoorQTokCutG
set_option maxHeartbeats 16000000
namespace Go.Proofs.YtjaladhdnbhliaaGreatDoor
open Go.Proofs.Tryz
open Go.RowKit Go.Shelf
theorem aby{α:Type}{R:CR α}{jZ:Nat}{w:World}{n:Nat}{t:TypeId}{cs:List Value}{x:α}{F:aV}(hB:Box w n t cs.toArray)(hr:R w F cs x)(hF:F n)(hb:jZ≤140737488355328):SliceOf R cs.length jZ w F (.slice (some ⟨n,0,none⟩) 1 1) [x]:=by
 refine⟨some ⟨n,0,none⟩,1,rfl,aJ _,by unfold maxLen;decide,by simpa using hb,by simp,fun _=>⟨n,0,rfl,hF,fun i y hi=>?_⟩⟩;cases i with
 |succ i=>simp at hi
 |zero=>
  simp only[List.getElem?_cons_zero,Option.some.injEq]at hi;subst hi;refine⟨cs,rfl,hr,fun j u hj=>?_⟩;rw[Nat.zero_mul,Nat.add_zero,Nat.zero_add];exact hB.at_ j u (by simpa using hj)
theorem aey(t:Token):vO [t]=lV t:=by
 unfold vO;rw[if_neg (by simp)]
 by_cases h:lV t=0
 ·rw[h];exact fM fun j hj y hy=>by
   cases j with
   |zero=>simp at hy;subst hy;exact h
   |succ j=>simp at hy
 ·exact eP (l:= [t]) (k:=0) (x:=t) rfl rfl h fun j hj=>absurd hj (Nat.not_lt_zero _)
theorem drop_at{l:List UInt8}{i:Nat}{c:UInt8}{r:List UInt8}(h:l.drop i=c::r)(q:Nat):(c::r)[q]? =l[i+q]? :=by rw[←h,List.getElem?_drop]
theorem drop_tail{l:List UInt8}{i:Nat}{c:UInt8}{r:List UInt8}(h:l.drop i=c::r):l.drop (i+1)=r:=by rw[←List.drop_drop,h];rfl
theorem MK(c:UInt8):inB (c.toNat:Int) 97 122=fQ c:=by unfold inB fQ;rw[Bool.eq_iff_iff];simp;omega
theorem KC(c:UInt8):inB (c.toNat:Int) 48 57=fC c:=by unfold inB fC;rw[Bool.eq_iff_iff];simp;omega
set_option maxRecDepth 100000 in
theorem SH(s:ByteArray)(w:World):Calls prog 84 #[.string s] w (TA (wR s) w):=by
 obtain⟨E,hE⟩:∃z,wR s=z:=⟨_,rfl⟩;rw[hE]
 by_cases h15:1500<s.size
 ·have Yj:(1500:Int)<(s.size:Int):=by omega
  obtain rfl:E=([],1):=by rw[←hE,O1 h15]
  clear hE;go_enter func84,ntmps84;go_wp2_with fail
  go_ret2
  exact⟨_,rfl,Below.refl _ _,SliceOf.nil_⟩
 have Yj:¬(1500:Int)<(s.size:Int):=by omega
 obtain⟨D,hD⟩:∃z,s.data.toList=z:=⟨_,rfl⟩;have hsl:D.length=s.size:=by rw[←hD];rfl
 obtain⟨T0,hT0⟩:∃z,zO (nM D)=z:=⟨_,rfl⟩;have he0:T0=none→E=([],4):=fun h=>by rw[←hE];exact OZ (by omega) (by rw[hD,hT0,h])
 have he1:∀L:List Token,T0=some L→200<L.length→E=([],1):=fun L h h2=>by rw[←hE];exact OY (by omega) (by rw[hD,hT0,h]) h2
 have he2:∀L:List Token,T0=some L→L.length≤200→E=(L,0):=fun L h h2=>by rw[←hE];exact OX (by omega) (by rw[hD,hT0,h]) h2
 have hat:=fun(k:Nat) (h:k<s.size)=>gY s k h
 rw[hD]at hat;have hxt:∀i j,s.extract i j=lit ((D.drop i).take (j-i)):=fun i j=>by rw[qN,hD]
 obtain⟨HT0,Xr,vk,HE2,HAT,HXT,HSL⟩:=aB hT0 he0 he1 he2 hat hxt hsl;clear hT0 he0 he1 he2 hat hxt hsl;clear hE hD;go_enter func84,ntmps84;go_wp2_with fail;go_loopg [4,5,6,7] s.size (fun gg s4 s5 _ _ wr=>∃(i c:Nat) (A:Option Addr) (L:List Token),i≤s.size∧s.size-i≤gg∧s5=.int .i64 i∧s4=.slice A L.length c∧L.length≤i∧Aside (T0=(zO (nM (D.drop i))).map (L++ ·))∧
  Aside (aZ fG 2 182 w.heap.size wr none_ (.slice A L.length c) L)∧Aside (Below w.heap.size w wr))
 case atStart=>exact⟨0,0,none,[],Nat.zero_le _,by omega,rfl,rfl,aJ _,aside (by rw[←HT0.out];simp),aside aZ.nil_,aside (Below.refl _ _)⟩
 case round=>
  obtain⟨i,c',A,L,hi,hg,rfl,rfl,hle,hTT,hO,BW⟩:=hrel;obtain⟨wo,rfl⟩:∃W,W=wr:=⟨_,rfl⟩
  by_cases hlt:i<s.size
  case neg=>
   have hltz:¬(i:Int)<(s.size:Int):=by omega
   obtain rfl:i=s.size:=by omega
   have htt:T0=some L:=by rw[hTT.out,List.drop_of_length_le (by have:=HSL.out;omega),show nM []= []from rfl,Kw];simp
   have he1:=vk.out L htt;have he2:=HE2.out L htt;have hsl:=hO.out.slice fG.stays (jZ:=24) (F':=fresh w.heap.size wo.heap.size) (fun k hk=>hk.elim) (fun k h1 h2=>⟨h1,h2⟩) (by omega) (by omega)
   by_cases h2:200<L.length
   ·have h2z:(200:Int)<(L.length:Int):=by omega
    obtain rfl:=he1 h2;clear he1 he2 hsl htt hO hTT;go_wp2_with fail
    go_ret2
    exact⟨_,rfl,BW.out,SliceOf.nil_⟩
   ·have h2z:¬(200:Int)<(L.length:Int):=by omega
    obtain rfl:=he2 (by omega);have am9:=ah hsl;clear he1 he2 htt hO hTT hsl;go_wp2_with fail
    go_ret2
    exact⟨_,rfl,BW.out,am9.out⟩
  case pos=>
  have hltz:(i:Int)<(s.size:Int):=by omega
  have hb:(s[i].toNat:Int)<256:=by have:=s[i].toNat_lt;omega
  obtain⟨c,r,hcr⟩:∃c r,D.drop i=c::r:=by
   cases h:D.drop i with
   |nil=>
    have h1:=congrArg List.length h;rw[List.length_drop]at h1;have:=HSL.out;simp at h1;omega
   |cons c r=>exact⟨c,r,rfl⟩
  have hcx:s[i]=c:=by
   have h1:=drop_at hcr 0;rw[Nat.add_zero,HAT.out i hlt]at h1;simpa using h1.symm
  have hrl:r.length+1+i=s.size:=by
   have h1:=congrArg List.length hcr;rw[List.length_drop,List.length_cons]at h1;have:=HSL.out;omega
  have htt:=hTT.out;rw[hcr]at htt;obtain⟨XF,xI,HTC,HRL⟩:=au hcr hcx htt hrl;clear hcr hcx htt hrl;clear hTT
  by_cases h32:c=32
  ·subst h32;have hq1:((s[i].toNat:Int)==32)=true:=by rw[xI.out];rfl
   go_wp2_with fail;go_roundg (s.size-(i+1))
   case measure=>omega
   case rel=>exact⟨i+1,c',A,L,by omega,by omega,by go_num,rfl,by omega,aside (by rw[drop_tail XF.out,HTC.out,Zj]),hO,BW⟩
  have hq1:((s[i].toNat:Int)==32)=false:=by
   rw[xI.out,beq_eq_false_iff_ne];intro e;exact h32 (UInt8.toNat_inj.1 (by have h2:(32:UInt8).toNat=32:=rfl;omega))
  have htt:=HTC.out;rw[Zk h32,Gv c r]at htt;have hls:=uz c r;obtain⟨⟨⟨K,TX⟩,RL,OK⟩,hR⟩:∃z,dP (c::r)=z:=⟨_,rfl⟩;rw[hR]at htt hls;dsimp only at htt hls;have hfk:=Uu c r;rw[hR]at hfk;dsimp only at hfk;have hx1:s.extract i (i+1)=lit [c]:=by rw[HXT.out,XF.out,show i+1-i=1 by omega];rfl
  have hw1:IntKind.i64.wrap ((i:Int)+1)=(i:Int)+1:=IntWalk.i64_in _ (by omega);obtain⟨HTT,HR,HFK,HX1,apS⟩:=ay htt hR hfk hx1 h32;clear htt hR hfk hx1 h32;clear HTC hw1;have aqQ:(i:Int)+1≤(s.size:Int):=by omega
  go_upto_region 10 with fail
  have hBt:=Box.made wo 182 #[.int .i64 4,.string (s.extract i (i+1))];have hbt:Below wo.heap.size wo (wo.alloc (.cells #[.int .i64 4,.string (s.extract i (i+1))] 182)):=by go_grown
  have pW:(wo.alloc (.cells #[.int .i64 4,.string (s.extract i (i+1))] 182)).heap.size=wo.heap.size+1:=by simp
  generalize wo.alloc (.cells #[.int .i64 4,.string (s.extract i (i+1))] 182)=W1 at hBt hbt pW⊢;have hlB:=hBt.lt;have alb:∀k,i+1≤k→r[k-(i+1)]? =D[k]? :=fun k hk=>by rw[←drop_tail XF.out,List.getElem?_drop,show i+1+(k-(i+1))=k by omega]
  have akM:∀k,i≤k→(c::r)[k-i]? =D[k]? :=fun k hk=>by rw[drop_at XF.out,show i+(k-i)=k by omega]
  obtain⟨HB,Hb,amV,ajo⟩:=au hBt hbt alb akM;clear hBt hbt alb akM;clear pW;obtain⟨z34,alk⟩:∃z,((s[i].toNat:Int)==34)=z:=⟨_,rfl⟩;have agG:z34=decide (c=34):=by
   rw[←alk,xI.out,Bool.eq_iff_iff,beq_iff_eq,decide_eq_true_eq];constructor
   ·intro e;exact UInt8.toNat_inj.1 (by have h2:(34:UInt8).toNat=34:=rfl;omega)
   ·intro e;rw[e];rfl
  have aj2:=ah agG;clear agG;go_upto_if 31 with (fail)
  clear alk;go_cut [6] (fun s6 wc=>∃k:Nat,s6=.int .i64 k∧k≤s.size∧i<k∧Aside (OK=sJ ⟨K,TX⟩)∧Aside (1≤K∧K≤4)∧Aside (RL=D.drop k)∧Aside (Box wc wo.heap.size 182 #[.int .i64 K,.string TX])∧Aside (Below wo.heap.size wo wc))
  case first=>
   cases z34 with
   |true=>
    obtain rfl:c=34:=by have:=aj2.out;simpa using this.symm
    have oN:=HR.out.symm.trans (qX r);simp only[Prod.mk.injEq,Token.mk.injEq]at oN;obtain⟨⟨hK,Tq⟩,hRL,Py⟩:=oN;subst hK;obtain⟨BK,amZ,xH⟩:=ak Tq hRL Py;clear Tq hRL Py;go_wp2_with fail;go_loopg [6] s.size (fun gg s6 wr=>∃k:Nat,i+1≤k∧k≤s.size∧s.size-k≤gg∧s6=.int .i64 k∧wr=W1∧Aside (∀j,j<k-(i+1)→∀x,r[j]? =some x→lQ x=true))
    case atStart=>exact⟨i+1,aJ _,by omega,by omega,by go_num,rfl,aside (fun j hj=>by omega)⟩
    case round=>
     obtain⟨k,hk1,hk2,hg2,rfl,rfl,A1⟩:=hrel;have hk0:k-(i+1)≤r.length:=by have:=HRL.out;omega
     by_cases hlt2:k<s.size
     ·have yU:(k:Int)<(s.size:Int):=by omega
      have hb2:(s[k].toNat:Int)<256:=by have:=s[k].toNat_lt;omega
      have hx:=amV.out k hk1;rw[HAT.out k hlt2]at hx;obtain⟨z,hz⟩:∃z,lQ s[k]=z:=⟨_,rfl⟩;have hzz:((s[k].toNat:Int)==34)= !z:=by
       rw[←hz];unfold lQ;rw[Bool.not_not,Bool.eq_iff_iff,beq_iff_eq,beq_iff_eq];constructor
       ·intro e;exact UInt8.toNat_inj.1 (by have h2:(34:UInt8).toNat=34:=rfl;omega)
       ·intro e;rw[e];rfl
      have hzn:((s[k].toNat:Int)!=34)=z:=by simp[bne,hzz]
      obtain⟨HX,HZ⟩:=aj hx hz;clear hx hz;cases z with
      |true=>
       have hgo:∀j,j<k+1-(i+1)→∀x,r[j]? =some x→lQ x=true:=by
        intro j hj x hx
        by_cases e:j=k-(i+1)
        ·subst e;rw[HX.out]at hx;injection hx with hx;rw[←hx];exact HZ.out
        ·exact A1.out j (by omega) x hx
       have HGO:=ah hgo;clear hgo;simp only[Bool.not_true]at hzz;go_wp2_with fail;go_roundg (s.size-(k+1))
       case measure=>omega
       case rel=>exact⟨k+1,by omega,by omega,by omega,by go_num,rfl,aside HGO.out⟩
      |false=>
       have hw:=rD (p:=lQ) (l:=r) (k:=k-(i+1)) hk0 A1.out (.inr ⟨_,HX.out,HZ.out⟩);have hkz:((k:Int)==(s.size:Int))=false:=by simp;omega
       have htx:TX=s.extract (i+1) k:=by rw[BK.out,hw.1,HXT.out,drop_tail XF.out]
       have hrl:RL=D.drop (k+1):=by rw[amZ.out,hw.2,List.drop_drop,←drop_tail XF.out,List.drop_drop,show i+1+(k-(i+1)+1)=k+1 by omega]
       have hok:OK=sJ ⟨3,TX⟩:=by
        rw[xH.out,BK.out,hw.2];have hne:(r.drop (k-(i+1))).isEmpty=false:=by
         have h1:=(List.getElem?_eq_some_iff.1 HX.out).1;rw[Bool.eq_false_iff];intro e;have h2:=congrArg List.length (List.isEmpty_iff.1 e);rw[List.length_drop,List.length_nil]at h2;omega
        rw[hne];rfl
       have hB1:=HB.out;have x0:=hB1.at_ 0 _ rfl;have x1:=hB1.at_ 1 _ rfl;have f0:=hB1.free 0;have f1:=hB1.free 1;have afw:(i:Int)+1≤(k:Int):=by omega
       simp only[Bool.not_false]at hzz;subst htx;obtain⟨JU,ahf⟩:=aj hrl hok;clear hrl hok;clear hw hB1 BK;go_wp2_with fail;go_meet;refine⟨k+1,by go_num,by omega,by omega,aside ahf.out,aside ⟨by decide,by decide⟩,aside JU.out,aside ?_,aside ((Hb.out.setCell (p:=⟨wo.heap.size,0,none⟩) (aJ _) _).setCell (p:=⟨wo.heap.size,1,none⟩) (aJ _) _)⟩;have h:=(HB.out.put 0 (.int .i64 3)).put 1 (.string (s.extract (i+1) k));simpa using h
     ·have yU:¬(k:Int)<(s.size:Int):=by omega
      obtain rfl:k=s.size:=by omega
      have hw:=rD (p:=lQ) (l:=r) (k:=s.size-(i+1)) hk0 A1.out (.inl (by have:=HRL.out;omega));have hn:T0=none:=by
       rw[HTT.out,xH.out,hw.2,List.drop_of_length_le (by have:=HRL.out;omega)]
       rfl
      obtain rfl:=Xr.out hn;have hbx:=aS BW.out Hb.out;have oq:=ah hbx;clear hbx;clear hn hw;go_wp2_with fail
      go_ret2
      exact⟨_,rfl,oq.out,SliceOf.nil_⟩
   |false=>
    have h34:c≠34:=by have:=aj2.out;simpa using this.symm
    obtain⟨zs,hzs⟩:∃z,fQ c=z:=⟨_,rfl⟩;obtain⟨zd,hzd⟩:∃z,fC c=z:=⟨_,rfl⟩;have hin1:=fun U:World=>iw (s[i].toNat:Int) 97 122 U
    have hin2:=fun U:World=>iw (s[i].toNat:Int) 48 57 U
    rw[xI.out,MK,hzs,←xI.out]at hin1;rw[xI.out,KC,hzd,←xI.out]at hin2;have hsI:zs=true→97≤(s[i].toNat:Int):=fun e=>by rw[←hzs]at e;rw[xI.out];unfold fQ at e;simp at e;omega
    have hdI:zd=true→(s[i].toNat:Int)≤57:=fun e=>by rw[←hzd]at e;rw[xI.out];unfold fC at e;simp at e;omega
    have ali:pX c=(zs||zd):=by unfold pX;rw[hzs,hzd]
    obtain⟨HI1,HI2,Xw,HZD,HSI,HDI,ajW,acB⟩:=aC hin1 hin2 hzs hzd hsI hdI ali h34;clear hin1 hin2 hzs hzd hsI hdI ali h34
    by_cases hzz:(zs||zd)=true
    case neg=>
     obtain⟨rfl,rfl⟩:zs=false∧zd=false:=by simpa using hzz
     have oN:=HR.out.symm.trans (uD r acB.out Xw.out HZD.out);simp only[Prod.mk.injEq,Token.mk.injEq]at oN;obtain⟨⟨hK,Tq⟩,hRL,Py⟩:=oN;have htx:TX=s.extract i (i+1):=by rw[Tq,HX1.out]
     have hok:OK=sJ ⟨K,TX⟩:=by rw[Py,hK,Tq];rfl
     have hrl:RL=D.drop (i+1):=by rw[hRL,drop_tail XF.out]
     have hkk:1≤K∧K≤4:=by omega
     have hBx:Box W1 wo.heap.size 182 #[.int .i64 K,.string TX]:=by rw[hK,htx];exact HB.out
     obtain⟨xH,JU,HKK,oq⟩:=au hok hrl hkk hBx;clear hok hrl hkk hBx;clear hzz hK Tq hRL Py htx;go_wp2_with(first|(go_at_call 139;(with_reducible refine(HI1.out _).mono ?_);rintro e w' ⟨rfl,rfl⟩)|(go_at_call 139;(with_reducible refine(HI2.out _).mono ?_);rintro e w' ⟨rfl,rfl⟩));go_meet;exact⟨i+1,by go_num,by omega,by omega,aside xH.out,aside HKK.out,aside JU.out,aside oq.out,aside Hb.out⟩
    case pos=>
    cases zs with
    |true=>
     clear hzz;have hwc:pX c=true:=by rw[ajW.out];rfl
     have HWC:=ah hwc;clear hwc;go_wp2_with(go_at_call 139;(with_reducible refine(HI1.out _).mono ?_);rintro e w' ⟨rfl,rfl⟩);go_loopg [6] s.size (fun gg s6 wr=>∃k:Nat,i+1≤k∧k≤s.size∧s.size-k≤gg∧s6=.int .i64 k∧wr=W1∧Aside (∀j,j<k-i→∀x,(c::r)[j]? =some x→pX x=true))
     case atStart=>
      refine⟨i+1,aJ _,by omega,by omega,by go_num,rfl,aside ?_⟩;intro j hj x hx;obtain rfl:j=0:=by omega
      simp only[List.getElem?_cons_zero,Option.some.injEq]at hx;rw[←hx];exact HWC.out
     case round=>
      obtain⟨k,hk1,hk2,hg2,rfl,rfl,A1⟩:=hrel;have hk0:k-i≤(c::r).length:=by rw[List.length_cons];have:=HRL.out;omega
      by_cases hlt2:k<s.size
      ·have yU:(k:Int)<(s.size:Int):=by omega
       have hb2:(s[k].toNat:Int)<256:=by have:=s[k].toNat_lt;omega
       have hx:=ajo.out k (by omega);rw[HAT.out k hlt2]at hx;have hin1:=fun U:World=>iw (s[k].toNat:Int) 97 122 U
       have hin2:=fun U:World=>iw (s[k].toNat:Int) 48 57 U
       rw[MK]at hin1;rw[KC]at hin2;obtain⟨ys,hys⟩:∃z,fQ s[k]=z:=⟨_,rfl⟩;obtain⟨yd,hyd⟩:∃z,fC s[k]=z:=⟨_,rfl⟩;have hwd:pX s[k]=(ys||yd):=by unfold pX;rw[hys,hyd]
       rw[hys]at hin1;rw[hyd]at hin2;obtain⟨HX,HJ1,HJ2,HWD⟩:=au hx hin1 hin2 hwd;clear hx hin1 hin2 hwd;clear hys hyd
       by_cases hyy:(ys||yd)=true
       ·have hgo:∀j,j<k+1-i→∀x,(c::r)[j]? =some x→pX x=true:=by
         intro j hj x hx
         by_cases e:j=k-i
         ·subst e;rw[HX.out]at hx;injection hx with hx;rw[←hx,HWD.out];exact hyy
         ·exact A1.out j (by omega) x hx
        have HGO:=ah hgo;clear hgo;cases ys with
        |true=>
         clear hyy;go_wp2_with(go_at_call 139;(with_reducible refine(HJ1.out _).mono ?_);rintro e w' ⟨rfl,rfl⟩);go_roundg (s.size-(k+1))
         case measure=>omega
         case rel=>exact⟨k+1,by omega,by omega,by omega,by go_num,rfl,aside HGO.out⟩
        |false=>
         cases yd with
         |false=>cases hyy
         |true=>
          clear hyy;go_wp2_with(first
            |(go_at_call 139;(with_reducible refine(HJ1.out _).mono ?_);rintro e w' ⟨rfl,rfl⟩)
            |(go_at_call 139;(with_reducible refine(HJ2.out _).mono ?_);rintro e w' ⟨rfl,rfl⟩))
          go_roundg (s.size-(k+1))
          case measure=>omega
          case rel=>exact⟨k+1,by omega,by omega,by omega,by go_num,rfl,aside HGO.out⟩
       ·obtain⟨rfl,rfl⟩:ys=false∧yd=false:=by simpa using hyy
        have hw:=rD (p:=pX) (l:=c::r) (k:=k-i) hk0 A1.out (.inr ⟨_,HX.out,HWD.out⟩);clear hyy;have afw:(i:Int)≤(k:Int):=by omega
        have ah3:(k:Int)≤(s.size:Int):=by omega
        have Ld:lit ((c::r).takeWhile pX)=s.extract i (k):=by rw[hw.1,HXT.out,XF.out]
        have hrl2:(c::r).dropWhile pX=D.drop (k):=by rw[hw.2,←XF.out,List.drop_drop,show i+(k-i)=k by omega]
        have hB1:=HB.out;have x0:=hB1.at_ 0 _ rfl;have x1:=hB1.at_ 1 _ rfl;have f0:=hB1.free 0;have f1:=hB1.free 1;have oN:=HR.out.symm.trans (oM r acB.out Xw.out);rw[Ld,hrl2]at oN;simp only[Prod.mk.injEq,Token.mk.injEq]at oN;obtain⟨⟨hK,Tq⟩,hRL,Py⟩:=oN;have hok:OK=sJ ⟨K,TX⟩:=by rw[Py,hK,Tq];rfl
        have hkk:1≤K∧K≤4:=by omega
        have h97:=HSI.out (by first|rfl|trivial);subst hK;subst Tq;obtain⟨xH,JU,HKK⟩:=ak hok hRL hkk;clear hok hRL hkk;clear Py hB1 Ld hrl2 hw;go_wp2_with(first
             |(go_at_call 139;(with_reducible refine(HJ1.out _).mono ?_);rintro e w' ⟨rfl,rfl⟩)
             |(go_at_call 139;(with_reducible refine(HJ2.out _).mono ?_);rintro e w' ⟨rfl,rfl⟩))
        go_meet;refine⟨k,rfl,by omega,by omega,aside xH.out,aside HKK.out,aside JU.out,aside ?_,aside ((Hb.out.setCell (p:=⟨wo.heap.size,0,none⟩) (aJ _) _).setCell (p:=⟨wo.heap.size,1,none⟩) (aJ _) _)⟩;have h:=(HB.out.put 0 (.int .i64 1)).put 1 (.string (s.extract i k));simpa using h
      ·have yU:¬(k:Int)<(s.size:Int):=by omega
       obtain rfl:k=s.size:=by omega
       have hw:=rD (p:=pX) (l:=c::r) (k:=s.size-i) hk0 A1.out (.inl (by rw[List.length_cons];have:=HRL.out;omega));have afw:(i:Int)≤(s.size:Int):=by omega
       have ah3:(s.size:Int)≤(s.size:Int):=by omega
       have Ld:lit ((c::r).takeWhile pX)=s.extract i (s.size):=by rw[hw.1,HXT.out,XF.out]
       have hrl2:(c::r).dropWhile pX=D.drop (s.size):=by rw[hw.2,←XF.out,List.drop_drop,show i+(s.size-i)=s.size by omega]
       have hB1:=HB.out;have x0:=hB1.at_ 0 _ rfl;have x1:=hB1.at_ 1 _ rfl;have f0:=hB1.free 0;have f1:=hB1.free 1;have oN:=HR.out.symm.trans (oM r acB.out Xw.out);rw[Ld,hrl2]at oN;simp only[Prod.mk.injEq,Token.mk.injEq]at oN;obtain⟨⟨hK,Tq⟩,hRL,Py⟩:=oN;have hok:OK=sJ ⟨K,TX⟩:=by rw[Py,hK,Tq];rfl
       have hkk:1≤K∧K≤4:=by omega
       have h97:=HSI.out (by first|rfl|trivial);subst hK;subst Tq;obtain⟨xH,JU,HKK⟩:=ak hok hRL hkk;clear hok hRL hkk;clear Py hB1 Ld hrl2 hw;go_wp2_with fail;go_meet;refine⟨s.size,rfl,by omega,by omega,aside xH.out,aside HKK.out,aside JU.out,aside ?_,aside ((Hb.out.setCell (p:=⟨wo.heap.size,0,none⟩) (aJ _) _).setCell (p:=⟨wo.heap.size,1,none⟩) (aJ _) _)⟩;have h:=(HB.out.put 0 (.int .i64 1)).put 1 (.string (s.extract i s.size));simpa using h
    |false=>
     obtain rfl:zd=true:=by simpa using hzz
     clear hzz;have hwc:pX c=true:=by rw[ajW.out];rfl
     have HWC:=ah hwc;clear hwc;go_wp2_with(first|(go_at_call 139;(with_reducible refine(HI1.out _).mono ?_);rintro e w' ⟨rfl,rfl⟩)|(go_at_call 139;(with_reducible refine(HI2.out _).mono ?_);rintro e w' ⟨rfl,rfl⟩));go_loopg [6] s.size (fun gg s6 wr=>∃k:Nat,i+1≤k∧k≤s.size∧s.size-k≤gg∧s6=.int .i64 k∧wr=W1∧Aside (∀j,j<k-i→∀x,(c::r)[j]? =some x→pX x=true))
     case atStart=>
      refine⟨i+1,aJ _,by omega,by omega,by go_num,rfl,aside ?_⟩;intro j hj x hx;obtain rfl:j=0:=by omega
      simp only[List.getElem?_cons_zero,Option.some.injEq]at hx;rw[←hx];exact HWC.out
     case round=>
      obtain⟨k,hk1,hk2,hg2,rfl,rfl,A1⟩:=hrel;have hk0:k-i≤(c::r).length:=by rw[List.length_cons];have:=HRL.out;omega
      by_cases hlt2:k<s.size
      ·have yU:(k:Int)<(s.size:Int):=by omega
       have hb2:(s[k].toNat:Int)<256:=by have:=s[k].toNat_lt;omega
       have hx:=ajo.out k (by omega);rw[HAT.out k hlt2]at hx;have hin1:=fun U:World=>iw (s[k].toNat:Int) 97 122 U
       have hin2:=fun U:World=>iw (s[k].toNat:Int) 48 57 U
       rw[MK]at hin1;rw[KC]at hin2;obtain⟨ys,hys⟩:∃z,fQ s[k]=z:=⟨_,rfl⟩;obtain⟨yd,hyd⟩:∃z,fC s[k]=z:=⟨_,rfl⟩;have hwd:pX s[k]=(ys||yd):=by unfold pX;rw[hys,hyd]
       rw[hys]at hin1;rw[hyd]at hin2;obtain⟨HX,HJ1,HJ2,HWD⟩:=au hx hin1 hin2 hwd;clear hx hin1 hin2 hwd;clear hys hyd
       by_cases hyy:(ys||yd)=true
       ·have hgo:∀j,j<k+1-i→∀x,(c::r)[j]? =some x→pX x=true:=by
         intro j hj x hx
         by_cases e:j=k-i
         ·subst e;rw[HX.out]at hx;injection hx with hx;rw[←hx,HWD.out];exact hyy
         ·exact A1.out j (by omega) x hx
        have HGO:=ah hgo;clear hgo;cases ys with
        |true=>
         clear hyy;go_wp2_with(go_at_call 139;(with_reducible refine(HJ1.out _).mono ?_);rintro e w' ⟨rfl,rfl⟩);go_roundg (s.size-(k+1))
         case measure=>omega
         case rel=>exact⟨k+1,by omega,by omega,by omega,by go_num,rfl,aside HGO.out⟩
        |false=>
         cases yd with
         |false=>cases hyy
         |true=>
          clear hyy;go_wp2_with(first
            |(go_at_call 139;(with_reducible refine(HJ1.out _).mono ?_);rintro e w' ⟨rfl,rfl⟩)
            |(go_at_call 139;(with_reducible refine(HJ2.out _).mono ?_);rintro e w' ⟨rfl,rfl⟩))
          go_roundg (s.size-(k+1))
          case measure=>omega
          case rel=>exact⟨k+1,by omega,by omega,by omega,by go_num,rfl,aside HGO.out⟩
       ·obtain⟨rfl,rfl⟩:ys=false∧yd=false:=by simpa using hyy
        have hw:=rD (p:=pX) (l:=c::r) (k:=k-i) hk0 A1.out (.inr ⟨_,HX.out,HWD.out⟩);clear hyy;have afw:(i:Int)≤(k:Int):=by omega
        have ah3:(k:Int)≤(s.size:Int):=by omega
        have Ld:lit ((c::r).takeWhile pX)=s.extract i (k):=by rw[hw.1,HXT.out,XF.out]
        have hrl2:(c::r).dropWhile pX=D.drop (k):=by rw[hw.2,←XF.out,List.drop_drop,show i+(k-i)=k by omega]
        have hB1:=HB.out;have x0:=hB1.at_ 0 _ rfl;have x1:=hB1.at_ 1 _ rfl;have f0:=hB1.free 0;have f1:=hB1.free 1;have oN:=HR.out.symm.trans (oL r acB.out Xw.out HZD.out);rw[Ld,hrl2]at oN;simp only[Prod.mk.injEq,Token.mk.injEq]at oN;obtain⟨⟨hK,Tq⟩,hRL,Py⟩:=oN;have hok:OK=sJ ⟨K,TX⟩:=by rw[Py,hK,Tq];rfl
        have hkk:1≤K∧K≤4:=by omega
        have h57:=HDI.out (by first|rfl|trivial);subst hK;subst Tq;obtain⟨xH,JU,HKK⟩:=ak hok hRL hkk;clear hok hRL hkk;clear Py hB1 Ld hrl2 hw;go_wp2_with(first
             |(go_at_call 139;(with_reducible refine(HJ1.out _).mono ?_);rintro e w' ⟨rfl,rfl⟩)
             |(go_at_call 139;(with_reducible refine(HJ2.out _).mono ?_);rintro e w' ⟨rfl,rfl⟩))
        go_meet;refine⟨k,rfl,by omega,by omega,aside xH.out,aside HKK.out,aside JU.out,aside ?_,aside (((Hb.out.setCell (p:=⟨wo.heap.size,0,none⟩) (aJ _) _).setCell (p:=⟨wo.heap.size,1,none⟩) (aJ _) _).setCell (p:=⟨wo.heap.size,0,none⟩) (aJ _) _)⟩;have h:=((HB.out.put 0 (.int .i64 1)).put 1 (.string (s.extract i k))).put 0 (.int .i64 2);simpa using h
      ·have yU:¬(k:Int)<(s.size:Int):=by omega
       obtain rfl:k=s.size:=by omega
       have hw:=rD (p:=pX) (l:=c::r) (k:=s.size-i) hk0 A1.out (.inl (by rw[List.length_cons];have:=HRL.out;omega));have afw:(i:Int)≤(s.size:Int):=by omega
       have ah3:(s.size:Int)≤(s.size:Int):=by omega
       have Ld:lit ((c::r).takeWhile pX)=s.extract i (s.size):=by rw[hw.1,HXT.out,XF.out]
       have hrl2:(c::r).dropWhile pX=D.drop (s.size):=by rw[hw.2,←XF.out,List.drop_drop,show i+(s.size-i)=s.size by omega]
       have hB1:=HB.out;have x0:=hB1.at_ 0 _ rfl;have x1:=hB1.at_ 1 _ rfl;have f0:=hB1.free 0;have f1:=hB1.free 1;have oN:=HR.out.symm.trans (oL r acB.out Xw.out HZD.out);rw[Ld,hrl2]at oN;simp only[Prod.mk.injEq,Token.mk.injEq]at oN;obtain⟨⟨hK,Tq⟩,hRL,Py⟩:=oN;have hok:OK=sJ ⟨K,TX⟩:=by rw[Py,hK,Tq];rfl
       have hkk:1≤K∧K≤4:=by omega
       have h57:=HDI.out (by first|rfl|trivial);subst hK;subst Tq;obtain⟨xH,JU,HKK⟩:=ak hok hRL hkk;clear hok hRL hkk;clear Py hB1 Ld hrl2 hw;go_wp2_with fail;go_meet;refine⟨s.size,rfl,by omega,by omega,aside xH.out,aside HKK.out,aside JU.out,aside ?_,aside (((Hb.out.setCell (p:=⟨wo.heap.size,0,none⟩) (aJ _) _).setCell (p:=⟨wo.heap.size,1,none⟩) (aJ _) _).setCell (p:=⟨wo.heap.size,0,none⟩) (aJ _) _)⟩;have h:=((HB.out.put 0 (.int .i64 1)).put 1 (.string (s.extract i s.size))).put 0 (.int .i64 2);simpa using h
  case rest=>
  obtain⟨k,rfl,hk1,hk2,Py,hK,hRL,hB2,hb2⟩:=hcut;obtain⟨W2,rfl⟩:∃W,W=wc:=⟨_,rfl⟩;have hki:I64 K:=⟨by have:=hK.out.1;omega,by have:=hK.out.2;omega⟩;have htx:okS TX:=by have:=HFK.out.2;have h2:=HRL.out;unfold okS;rw[List.length_cons]at this;omega
  have hfa:=fun(n:Nat) (U:World) (hU:Box U n 182 #[.int .i64 K,.string TX])=>Om [⟨K,TX⟩] (.slice (some ⟨n,0,none⟩) 1 1) (fun k=>k=n) U (fun k hk=>by rw[hk];exact hU.lt) (aby (cs:= [.int .i64 K,.string TX]) hU ⟨rfl,hki,htx⟩ rfl (by decide))
  rw[aey]at hfa;have hok:=uj (t:=⟨K,TX⟩) hK.out.1 hK.out.2;have hno:=Qq (t:=⟨K,TX⟩) hK.out.1 hK.out.2;obtain⟨ze,hze⟩:∃z,lV ⟨K,TX⟩=z:=⟨_,rfl⟩;rw[hze]at hfa hok hno;rw[←Py.out]at hok hno;have hb3:=BW.out.trans (hb2.out.mono BW.out.size);have hO2:=hO.out.below fG.stays hb2.out;have hB1:=hB2.out;have aqV:=hB1.lt;have hi1:=hki.1;have hi2:=hki.2;have x0:=hB1.at_ 0 _ rfl;have x1:=hB1.at_ 1 _ rfl;obtain⟨HFA,ahf,amI,HB3,HO2,HB1⟩:=aA hfa hok hno hb3 hO2 hB1;clear hfa hok hno hb3 hO2 hB1;clear hze Py hb2 hO;go_wp2_with fail;refine(HFA.out _ _ (Box.made W2 182 #[.int .i64 K,.string TX])).mono ?_;rintro e W4 ⟨rfl,hb4⟩;have afp:=lW (Below.refl _ W2) hb4;have hB4:=HB1.out.later afp HB1.out.lt;have hO4:=HO2.out.below fG.stays afp;have ER:=HB3.out.trans (afp.mono HB3.out.size);have aqW:=hB4.lt;clear x0 x1 hb4;have x0:=hB4.at_ 0 _ rfl;have x1:=hB4.at_ 1 _ rfl;obtain⟨zl,HB4⟩:=aj hO4 ER;clear hO4 ER;clear afp hB4;cases OK with
  |false=>
   have Ir:=amI.out rfl;subst Ir;have hn:T0=none:=by rw[HTT.out];rfl
   obtain rfl:=Xr.out hn;clear hn;go_wp2_with fail
   go_ret2
   exact⟨_,rfl,HB4.out,SliceOf.nil_⟩
  |true=>
   have Ir:=ahf.out rfl;subst Ir;have hnx:T0=(zO (nM (D.drop k))).map ((L++ [⟨K,TX⟩])++ ·):=by rw[HTT.out,if_pos rfl,U8,hRL.out]
   have Zr:=ah hnx;clear hnx;go_wp2_with(at_builtin;go_must((refine bH fG.stays (.agg #[.int .i64 0,.string ⟨#[]⟩]) [.int .i64 K,.string TX] ⟨K,TX⟩ rfl rfl underlying136 (bytes:=24) (by kernel_rfl) zl.out rfl rfl (by decide) rfl rfl (show fG W4 none_ _ _ from⟨rfl,hki,htx⟩) (Qr (d:=⟨K,TX⟩)) (fun k hk=>hk.elim) (by unfold maxLen;omega) (by omega) HB4.out.size ?_);(intro A6 c6 W7 mV hgr _;have hb6:=HB4.out.trans (hgr.below (B:=w.heap.size) (aJ _) HB4.out.size);have uq:=Lib.hid mV;have kH:=Lib.hid hb6;clear mV hgr hb6)));go_roundg (s.size-k)
   case measure=>omega
   case rel=>
    refine⟨k,c6,A6,L++ [⟨K,TX⟩],hk1,aJ _,rfl,by simp,by rw[List.length_append,List.length_singleton];omega,aside Zr.out,aside ?_,aside kH.out⟩;have h:=aZ.wider fG.stays uq.out (F':=none_) (fun k hk=>hk.elim id id) (fun k hk=>hk.elim);simpa using h
end Go.Proofs.YtjaladhdnbhliaaGreatDoor
