/- Parts. -/
import Derived.Test.YtjaladhdnbhliaaGreatDoorQTokChk
import Derived.Test.YtjaladhdnbhliaaGreatDoorQReadPlain
set_option maxHeartbeats 4000000
set_option maxRecDepth 100000
namespace Go.Proofs.YtjaladhdnbhliaaGreatDoor
open Go.Proofs.Tryz
open Go.RowKit
def pX(c:UInt8):Bool:=fQ c||fC c
def lQ(c:UInt8):Bool:= !(c==34)
def nM(l:List UInt8):List UInt8:=l.dropWhile (· ==32)
def dP:List UInt8→Token×List UInt8×Bool
 |[]=>(⟨4,⟨#[]⟩⟩,[],false)
 |c::r=>
  if c=34 then(⟨3,lit (r.takeWhile lQ)⟩,(r.dropWhile lQ).drop 1,!(r.dropWhile lQ).isEmpty&&jq (lit (r.takeWhile lQ)))
  else if fQ c=true then(⟨1,lit ((c::r).takeWhile pX)⟩,(c::r).dropWhile pX,oH (lit ((c::r).takeWhile pX)))
  else if fC c=true then(⟨2,lit ((c::r).takeWhile pX)⟩,(c::r).dropWhile pX,jC (lit ((c::r).takeWhile pX)))
  else(⟨4,lit [c]⟩,r,rY (lit [c]))
theorem qX(r:List UInt8):dP (34::r)=(⟨3,lit (r.takeWhile lQ)⟩,(r.dropWhile lQ).drop 1,!(r.dropWhile lQ).isEmpty&&jq (lit (r.takeWhile lQ))):=by unfold dP;dsimp only;rw[if_pos rfl]
theorem oM{c:UInt8}(r:List UInt8)(h:c≠34)(hs:fQ c=true):dP (c::r)=(⟨1,lit ((c::r).takeWhile pX)⟩,(c::r).dropWhile pX,oH (lit ((c::r).takeWhile pX))):=by unfold dP;dsimp only;rw[if_neg h,if_pos hs]
theorem oL{c:UInt8}(r:List UInt8)(h:c≠34)(hs:fQ c=false)(hd:fC c=true):dP (c::r)=(⟨2,lit ((c::r).takeWhile pX)⟩,(c::r).dropWhile pX,jC (lit ((c::r).takeWhile pX))):=by unfold dP;dsimp only;rw[if_neg h,if_neg (by simp[hs]),if_pos hd]
theorem uD{c:UInt8}(r:List UInt8)(h:c≠34)(hs:fQ c=false)(hd:fC c=false):dP (c::r)=(⟨4,lit [c]⟩,r,rY (lit [c])):=by unfold dP;dsimp only;rw[if_neg h,if_neg (by simp[hs]),if_neg (by simp[hd])]
def Yc:Nat→List UInt8→Option (List Token)
 |_,[]=>some []
 |0,_::_=>none
 |n+1,c::r=>if(dP (c::r)).2.2=true then(Yc n (nM (dP (c::r)).2.1)).map ((dP (c::r)).1:: ·)else none
def zO(l:List UInt8):Option (List Token):=Yc (l.length+1) l
def wR(s:ByteArray):List Token×Int:=if 1500<s.size then([],1)else match zO (nM s.data.toList)with
 |none=>([],4)
 |some L=>if 200<L.length then([],1)else(L,0)
theorem QM{p:UInt8→Bool}(l:List UInt8):(l.dropWhile p).length≤l.length:=(List.dropWhile_sublist p).length_le
theorem FX(l:List UInt8):(nM l).length≤l.length:=QM l
theorem uz(c:UInt8)(r:List UInt8):(dP (c::r)).2.1.length<(c::r).length:=by
 have h1:=QM (p:=lQ) r;have h2:=QM (p:=pX) r
 by_cases hq:c=34
 ·subst hq;rw[qX]
  show((r.dropWhile lQ).drop 1).length<_
  rw[List.length_drop,List.length_cons];omega
 cases hs:fQ c with
 |true=>
  rw[oM r hq hs]
  show((c::r).dropWhile pX).length<_
  rw[List.dropWhile_cons_of_pos (by unfold pX;simp[hs]),List.length_cons];omega
 |false=>
  cases hd:fC c with
  |true=>
   rw[oL r hq hs hd]
   show((c::r).dropWhile pX).length<_
   rw[List.dropWhile_cons_of_pos (by unfold pX;simp[hd]),List.length_cons];omega
  |false=>
   rw[uD r hq hs hd]
   show r.length<_
   rw[List.length_cons];omega
theorem O4:∀(n m:Nat) (l:List UInt8),l.length<n→l.length<m→Yc n l=Yc m l
 |0,_,_,h,_=>by omega
 |_+1,0,_,_,h=>by omega
 |n+1,m+1,[],_,_=>by unfold Yc;rfl
 |n+1,m+1,c::r,h1,h2=>by
  have h3:=uz c r;have h4:=FX (dP (c::r)).2.1;unfold Yc;rw[O4 n m _ (by omega) (by omega)]
theorem Kw:zO []=some []:=rfl
theorem Gv(c:UInt8)(r:List UInt8):zO (c::r)=if(dP (c::r)).2.2=true then(zO (nM (dP (c::r)).2.1)).map ((dP (c::r)).1:: ·)else none:=by
 have h3:=uz c r;have h4:=FX (dP (c::r)).2.1;unfold zO
 conv=>lhs;unfold Yc
 rw[O4 (c::r).length ((nM (dP (c::r)).2.1).length+1) _ (by omega) (by omega)]
theorem Zj(r:List UInt8):nM (32::r)=nM r:=by unfold nM;rw[List.dropWhile_cons_of_pos (by simp)]
theorem Zk{c:UInt8}(h:c≠32)(r:List UInt8):nM (c::r)=c::r:=by unfold nM;rw[List.dropWhile_cons_of_neg (by simp[h])]
theorem Lm(c:UInt8):∀l:List UInt8,Lib.index l [c]=if(l.dropWhile (fun b=> !(b==c))).isEmpty=true then -1 else((l.takeWhile (fun b=> !(b==c))).length:Int)
 |[]=>rfl
 |b::l=>by
  have ih:=Lm c l
  by_cases h:b=c
  ·subst h;rw[List.dropWhile_cons_of_neg (by simp),List.takeWhile_cons_of_neg (by simp)];unfold Lib.index;simp
  ·rw[List.dropWhile_cons_of_pos (by simp[h]),List.takeWhile_cons_of_pos (by simp[h])];unfold Lib.index;rw[ih,if_neg (by simp;exact fun e=>h e.symm)]
   by_cases h2:(l.dropWhile (fun b=> !(b==c))).isEmpty=true
   ·rw[if_pos h2,if_pos h2,if_pos (by simp)]
   ·rw[if_neg h2,if_neg h2,if_neg (by simp),List.length_cons];omega
theorem aaT(l:List UInt8):Lib.cut l [34]=(l.takeWhile lQ,(l.dropWhile lQ).drop 1,!(l.dropWhile lQ).isEmpty):=by
 have h:=Lm 34 l;have ht:l.takeWhile lQ++l.dropWhile lQ=l:=List.takeWhile_append_dropWhile;rw[show(fun b:UInt8=> !(b==34))=lQ from rfl]at h;unfold Lib.cut
 by_cases he:(l.dropWhile lQ).isEmpty=true
 ·rw[if_pos he]at h;rw[h,if_neg (by omega),he];have hn:l.dropWhile lQ= []:=List.isEmpty_iff.1 he;rw[hn,List.append_nil]at ht;rw[hn,ht];rfl
 ·rw[if_neg he]at h;rw[h,if_pos (by omega)];have h1:l.take (l.takeWhile lQ).length=l.takeWhile lQ:=by
   conv=>lhs;arg 2;rw[←ht]
   rw[List.take_left']
   rfl
  have h2:l.drop (l.takeWhile lQ).length=l.dropWhile lQ:=by
   conv=>lhs;arg 2;rw[←ht]
   rw[List.drop_left']
   rfl
  rw[Int.toNat_natCast,h1,show([34]:List UInt8).length=1 from rfl,←List.drop_drop,h2];simp[he]
theorem ad7(s:ByteArray):lit s.data.toList=s:=by unfold lit;exact afb s
theorem E8(l:List UInt8):(lit l).data.toList=l:=by unfold lit;exact wL l
theorem qN(s:ByteArray)(i j:Nat):s.extract i j=lit ((s.data.toList.drop i).take (j-i)):=zK (by rw[CY,E8])
def jJ:Module:=⟨[],[],[]⟩
def iP:List UInt8→List (List UInt8)
 |[]=> [[]]
 |c::r=>if c=10 then[]::iP r else match iP r with
  |[]=> [[c]]
  |x::t=>(c::x)::t
def nK(m:Module)(s:ByteArray):Except Int Module:=if(wR s).2≠0 then .error (wR s).2 else Ap m (wR s).1
def mG(m:Module):List (List UInt8)→Except Int Module
 |[]=>.ok m
 |x::r=>match nK m (lit x)with
  | .error e=>.error e
  | .ok m'=>mG m' r
def kF(s:ByteArray):Module×Int:=
 if 1500<s.size then(jJ,1)
 else match mG jJ (iP s.data.toList)with
  | .error e=>(jJ,e)
  | .ok m=>if dD m≠0 then(jJ,dD m)else(m,0)
theorem yx(c:UInt8)(r:List UInt8):iP (c::r)=if c=10 then[]::iP r else match iP r with
  |[]=> [[c]]
  |x::t=>(c::x)::t:=rfl
def sH(c:UInt8):Bool:= !(c==10)
theorem LH{l:List UInt8}(h:l.all sH=true):iP l= [l]:=by
 induction l with
 |nil=>rfl
 |cons c r ih=>
  rw[List.all_cons,Bool.and_eq_true]at h;have hc:c≠10:=fun e=>by subst e;simp[sH]at h
  rw[yx,if_neg hc,ih h.2]
theorem Aq{a b:List UInt8}(h:a.all sH=true):iP (a++10::b)=a::iP b:=by
 induction a with
 |nil=>show iP (10::b)=_;rw[yx,if_pos rfl]
 |cons c r ih=>
  rw[List.all_cons,Bool.and_eq_true]at h;have hc:c≠10:=fun e=>by subst e;simp[sH]at h
  show iP (c::(r++10::b))=_
  rw[yx,if_neg hc,ih h.2]
theorem Hu{m m':Module}{x:List UInt8}{r:List (List UInt8)}(h:nK m (lit x)=.ok m'):mG m (x::r)=mG m' r:=by
 conv=>lhs;unfold mG
 rw[h]
theorem Ht{m:Module}{x:List UInt8}{r:List (List UInt8)}{e:Int}(h:nK m (lit x)=.error e):mG m (x::r)=.error e:=by
 unfold mG;rw[h]
theorem H6{s:ByteArray}(h:1500<s.size):kF s=(jJ,1):=by unfold kF;rw[if_pos h]
theorem Me{s:ByteArray}{e:Int}(h:s.size≤1500)(hp:mG jJ (iP s.data.toList)=.error e):kF s=(jJ,e):=by unfold kF;rw[if_neg (by omega),hp]
theorem DX{s:ByteArray}{m:Module}(h:s.size≤1500)(hp:mG jJ (iP s.data.toList)=.ok m)(hm:dD m≠0):kF s=(jJ,dD m):=by unfold kF;rw[if_neg (by omega),hp];simp only;rw[if_pos hm]
theorem RU{s:ByteArray}{m:Module}(h:s.size≤1500)(hp:mG jJ (iP s.data.toList)=.ok m)(hm:dD m=0):kF s=(m,0):=by unfold kF;rw[if_neg (by omega),hp];simp only;rw[if_neg (by simp[hm])]
open Go.Shelf
theorem rD{p:UInt8→Bool}{l:List UInt8}{k:Nat}(hk:k≤l.length)(hp:∀j,j<k→∀x,l[j]? =some x→p x=true)(he:k=l.length∨∃x,l[k]? =some x∧p x=false):l.takeWhile p=l.take k∧l.dropWhile p=l.drop k:=by
 induction l generalizing k with
 |nil=>simp
 |cons a r ih=>
  cases k with
  |zero=>
   rcases he with h|⟨x,h1,h2⟩
   ·cases h
   ·simp only[List.getElem?_cons_zero,Option.some.injEq]at h1;subst h1;rw[List.takeWhile_cons_of_neg (by simp[h2]),List.dropWhile_cons_of_neg (by simp[h2])];exact⟨rfl,rfl⟩
  |succ k=>
   have ha:p a=true:=hp 0 (by omega) a rfl;obtain⟨h1,h2⟩:=ih (k:=k) (by simpa using hk) (fun j hj x hx=>hp (j+1) (by omega) x (by simpa using hx)) (by
    rcases he with h|⟨x,h1,h2⟩
    ·left;simpa using h
    ·right;exact⟨x,by simpa using h1,h2⟩)
   rw[List.takeWhile_cons_of_pos ha,List.dropWhile_cons_of_pos ha,h1,h2];exact⟨rfl,rfl⟩
theorem Yb(s:ByteArray)(w:World)(mx:Int)(hs:s.size≤1500)(hM:w.cell? ⟨1,0,none⟩=some (.int .i64 mx)):
  Calls prog 193 #[.string s,.string ⟨#[34]⟩] w fun e w'=>e=.returned (.tuple #[.string (lit (s.data.toList.takeWhile lQ)),.string (lit ((s.data.toList.dropWhile lQ).drop 1)),.bool (!(s.data.toList.dropWhile lQ).isEmpty)])∧Below w.heap.size w w':=
 (Tryz.strings_Cut s ⟨#[34]⟩ mx w (by omega) hM).mono fun e w' ⟨he,n,hw⟩=>⟨by
  rw[he,show(⟨#[34]⟩:ByteArray).data.toList= [34]from rfl,aaT];rfl,by subst hw;exact below_drewN (Below.refl _ _) n⟩
theorem SC(s:ByteArray)(c:UInt8)(r:List UInt8)(w:World)(mx:Int)(hs:s.size≤1500)(hl:s.data.toList=c::r)(hT:Tabs w mx):
  Calls prog 122 #[.string s] w fun e w'=>e=.returned (.tuple #[.agg #[.int .i64 (dP (c::r)).1.kind,.string (dP (c::r)).1.text],.string (lit (dP (c::r)).2.1),.bool (dP (c::r)).2.2])∧Below w.heap.size w w':=by
 have hsz:s.size=r.length+1:=by rw[mW,hl];rfl
 have h0:0<s.size:=by omega
 have h0z:(0:Int)<(s.size:Int):=by omega
 have h1z:(1:Int)≤(s.size:Int):=by omega
 have hcx:s[0]=c:=by
  have h:=gY s 0 h0;rw[hl]at h;injection h with h
  exact h.symm
 have hb:(s[0].toNat:Int)<256:=by have:=s[0].toNat_lt;omega
 have hx1:s.extract 1 s.size=lit r:=by rw[qN,hl];show lit (r.take (s.size-1))=_;rw[List.take_of_length_le (by omega)]
 have hx0:s.extract 0 1=lit [c]:=by rw[qN,hl];rfl
 obtain⟨E,hE⟩:∃z,dP (c::r)=z:=⟨_,rfl⟩;rw[hE];obtain⟨⟨K,TX⟩,RL,OK⟩:=E;dsimp only;have abj:∀U:World,Calls prog 180 #[.int .u8 s[0].toNat] U fun e w'=>e=.returned (.bool (fQ c))∧U=w':=fun U=>by have h:=xC s[0] U;rw[hcx]at h⊢;exact h
 obtain⟨HE,HL,xI,Ny,HX1,HX0,HT,ajN⟩:=aC hE hl hcx hsz hx1 hx0 hT abj;clear hE hl hcx hsz hx1 hx0 hT abj;go_enter func122,ntmps122;go_upto_region 1 with fail
 have hBb:=Box.made w 182 #[.int .i64 0,.string ⟨#[]⟩];have hbb:Below w.heap.size w (w.alloc (.cells #[.int .i64 0,.string ⟨#[]⟩] 182)):=by go_grown
 have hzb:(w.alloc (.cells #[.int .i64 0,.string ⟨#[]⟩] 182)).heap.size=w.heap.size+1:=by simp
 generalize w.alloc (.cells #[.int .i64 0,.string ⟨#[]⟩] 182)=W1 at hBb hbb hzb⊢;have hT1:=HT.out.later hbb;obtain⟨HB,Hb,HT1⟩:=ak hBb hbb hT1;clear hBb hbb hT1;clear hzb
 by_cases hq:c=34
 ·subst hq;have oN:=HE.out.symm.trans (qX r);have hq1:((s[0].toNat:Int)==34)=true:=by rw[xI.out];rfl
  have hcut:=Yb (lit r) W1 mx (by rw[jT];have:=Ny.out;omega) HT1.out.max;rw[E8,←HX1.out]at hcut;have hqs:=fun U=>FM (lit (r.takeWhile lQ)) U (by rw[jT];have h1:=(List.takeWhile_sublist lQ (l:=r)).length_le;have:=Ny.out;omega)
  obtain⟨B,hB⟩:∃z,lit (r.takeWhile lQ)=z:=⟨_,rfl⟩;rw[hB]at hcut oN hqs;obtain⟨RQ,hRQ⟩:∃z,(r.dropWhile lQ).drop 1=z:=⟨_,rfl⟩;rw[hRQ]at hcut oN;obtain⟨zq,UM⟩:∃z,jq B=z:=⟨_,rfl⟩;rw[UM]at oN hqs;obtain⟨z,hz⟩:∃z,(!(r.dropWhile lQ).isEmpty)=z:=⟨_,rfl⟩;rw[hz]at hcut oN;simp only[Prod.mk.injEq,Token.mk.injEq]at oN;obtain⟨⟨rfl,rfl⟩,rfl,rfl⟩:=oN;obtain⟨al7,HQS⟩:=aj hcut hqs;clear hcut hqs;clear hB hRQ UM hz;go_wp2_with fail;refine al7.out.mono ?_;rintro e W2 ⟨rfl,hb2⟩;have hB2:=HB.out.later hb2 HB.out.lt;have hbw:=aS Hb.out hb2;obtain⟨HB2,cO⟩:=aj hB2 hbw;clear hB2 hbw;clear hb2;cases z with
  |false=>
   have hB3:=HB2.out;have hlt:=hB3.lt;have x0:=hB3.at_ 0 _ rfl;have x1:=hB3.at_ 1 _ rfl;have f0:=hB3.free 0;have f1:=hB3.free 1;clear hB3;go_wp2_with fail;exact bodyPost_ret (v:=.tuple #[.agg #[.int .i64 3,.string TX],.string (lit RL),.bool false]) (by simp[results,results122,go_sem,x0,x1]) rfl ⟨rfl,(cO.out.setCell (p:=⟨w.heap.size,0,none⟩) (aJ _) _).setCell (p:=⟨w.heap.size,1,none⟩) (aJ _) _⟩
  |true=>
   go_wp2_with fail;refine(HQS.out _).mono ?_;rintro e W3 ⟨rfl,hb3⟩;have hB3:=HB2.out.later hb3 HB2.out.lt;have hbw:=aS cO.out hb3;have hlt:=hB3.lt;have x0:=hB3.at_ 0 _ rfl;have x1:=hB3.at_ 1 _ rfl;have f0:=hB3.free 0;have f1:=hB3.free 1;have fV:=ah hbw;clear hbw;clear hB3 hb3;go_wp2_with fail;exact bodyPost_ret (v:=.tuple #[.agg #[.int .i64 3,.string TX],.string (lit RL),.bool zq]) (by simp[results,results122,go_sem,x0,x1]) rfl ⟨by simp,(fV.out.setCell (p:=⟨w.heap.size,0,none⟩) (aJ _) _).setCell (p:=⟨w.heap.size,1,none⟩) (aJ _) _⟩
 ·have hq1:((s[0].toNat:Int)==34)=false:=by
   rw[xI.out,beq_eq_false_iff_ne];intro e;exact hq (UInt8.toNat_inj.1 (by have h2:(34:UInt8).toNat=34:=rfl;omega))
  go_upto_block 0 with fail
  go_cut [8] (fun s8 wc=>∃kk:Nat,kk≤s.size∧s8=.int .i64 kk∧wc=W1∧Aside ((c::r).takeWhile pX=(c::r).take kk∧(c::r).dropWhile pX=(c::r).drop kk)∧Aside (kk=0→pX c=false)∧Aside (0<kk→pX c=true))
  case first=>
   go_wp2_with fail;go_loopg [8] s.size (fun gg s8 wr=>∃kk:Nat,kk≤s.size∧s.size-kk≤gg∧s8=.int .i64 kk∧wr=W1∧Aside (∀j,j<kk→∀x,(c::r)[j]? =some x→pX x=true))
   case atStart=>exact⟨0,Nat.zero_le _,by omega,rfl,rfl,aside (fun j hj=>absurd hj (Nat.not_lt_zero _))⟩
   case round=>
    obtain⟨kk,hkk,hg,rfl,rfl,A1⟩:=hrel
    by_cases hlt:kk<s.size
    ·have hltz:(kk:Int)<(s.size:Int):=by omega
     have hb':(s[kk].toNat:Int)<256:=by have:=s[kk].toNat_lt;omega
     have hx:=gY s kk hlt;rw[HL.out]at hx;have hsm:=fun U=>xC s[kk] U
     have hdg:=fun U=>O7 s[kk] U
     obtain⟨zs,hzs⟩:∃z,fQ s[kk]=z:=⟨_,rfl⟩;obtain⟨zd,hzd⟩:∃z,fC s[kk]=z:=⟨_,rfl⟩;have hwd:pX s[kk]=(zs||zd):=by unfold pX;rw[hzs,hzd]
     rw[hzs]at hsm;rw[hzd]at hdg;obtain⟨HX,HSM,HDG,HWD⟩:=au hx hsm hdg hwd;clear hx hsm hdg hwd;clear hzs hzd
     by_cases hzz:(zs||zd)=true
     ·have hgo:∀j,j<kk+1→∀x,(c::r)[j]? =some x→pX x=true:=by
       intro j hj x hx
       by_cases e:j=kk
       ·subst e;rw[HX.out]at hx;injection hx with hx;rw[←hx,HWD.out];exact hzz
       ·exact A1.out j (by omega) x hx
      have HGO:=ah hgo;clear hgo;cases zs with
      |true=>
       clear hzz;go_wp2_with(first
        |(go_at_call 180;(with_reducible refine(HSM.out _).mono ?_);rintro e w' ⟨rfl,rfl⟩)
        |(go_at_call 183;(with_reducible refine(HDG.out _).mono ?_);rintro e w' ⟨rfl,rfl⟩))
       go_roundg (s.size-(kk+1))
       case measure=>omega
       case rel=>exact⟨kk+1,by omega,by omega,by go_num,rfl,aside HGO.out⟩
      |false=>
       cases zd with
       |false=>cases hzz
       |true=>
        clear hzz;go_wp2_with(first
         |(go_at_call 180;(with_reducible refine(HSM.out _).mono ?_);rintro e w' ⟨rfl,rfl⟩)
         |(go_at_call 183;(with_reducible refine(HDG.out _).mono ?_);rintro e w' ⟨rfl,rfl⟩))
        go_roundg (s.size-(kk+1))
        case measure=>omega
        case rel=>exact⟨kk+1,by omega,by omega,by go_num,rfl,aside HGO.out⟩
     ·obtain⟨rfl,rfl⟩:zs=false∧zd=false:=by simpa using hzz
      have hw:=rD (p:=pX) (l:=c::r) (k:=kk) (by rw[List.length_cons];have:=Ny.out;omega) A1.out (.inr ⟨_,HX.out,HWD.out⟩);have hw0:kk=0→pX c=false:=fun e=>by subst e;have h:=HWD.out;rw[xI.out]at h;exact h
      have hw1:0<kk→pX c=true:=fun e=>A1.out 0 e c rfl
      obtain⟨HW,HW0,HW1⟩:=ak hw hw0 hw1;clear hw hw0 hw1;clear hzz;go_wp2_with(first
        |(go_at_call 180;(with_reducible refine(HSM.out _).mono ?_);rintro e w' ⟨rfl,rfl⟩)
        |(go_at_call 183;(with_reducible refine(HDG.out _).mono ?_);rintro e w' ⟨rfl,rfl⟩))
      go_meet;exact⟨kk,hkk,rfl,rfl,aside HW.out,aside HW0.out,aside HW1.out⟩
    ·have hltz:¬(kk:Int)<(s.size:Int):=by omega
     obtain rfl:kk=s.size:=by omega
     have hw:=rD (p:=pX) (l:=c::r) (k:=s.size) (by rw[List.length_cons];have:=Ny.out;omega) A1.out (.inl (by rw[List.length_cons];exact Ny.out));have hw0:s.size=0→pX c=false:=fun e=>by omega
     have hw1:0<s.size→pX c=true:=fun e=>A1.out 0 e c rfl
     obtain⟨HW,HW0,HW1⟩:=ak hw hw0 hw1;clear hw hw0 hw1;go_wp2_with fail;go_meet;exact⟨s.size,hkk,rfl,rfl,aside HW.out,aside HW0.out,aside HW1.out⟩
  case rest=>
  obtain⟨kk,hkk,rfl,rfl,HW,HW0,HW1⟩:=hcut;have aqS:(kk:Int)≤(s.size:Int):=by omega
  obtain⟨zs,hzs⟩:∃z,fQ c=z:=⟨_,rfl⟩;obtain⟨zd,hzd⟩:∃z,fC c=z:=⟨_,rfl⟩;have hwd:pX c=(zs||zd):=by unfold pX;rw[hzs,hzd]
  have abj:=ajN.out;rw[hzs]at abj;obtain⟨HSM,Xw,HZD⟩:=ak abj hzs hzd;clear abj hzs hzd;clear ajN
  by_cases hk0:kk=0
  ·subst hk0;have hw0:=HW0.out (by first|rfl|trivial);rw[hwd]at hw0;obtain⟨rfl,rfl⟩:zs=false∧zd=false:=by simpa using hw0
   have oN:=HE.out.symm.trans (uD r hq Xw.out HZD.out);have hcs:=fun U=>Gu c U
   rw[show(⟨#[c]⟩:ByteArray)=lit [c]from rfl,←HX0.out]at hcs;rw[←HX0.out]at oN;obtain⟨zq,UM⟩:∃z,rY (s.extract 0 1)=z:=⟨_,rfl⟩;rw[UM]at oN hcs;simp only[Prod.mk.injEq,Token.mk.injEq]at oN;obtain⟨⟨rfl,rfl⟩,rfl,rfl⟩:=oN;have HCS:=ah hcs;clear hcs;clear hw0 UM hwd;go_wp2_with fail;have hB1:=HB.out;have hlt:=hB1.lt;have x0:=hB1.at_ 0 _ rfl;have x1:=hB1.at_ 1 _ rfl;have f0:=hB1.free 0;have f1:=hB1.free 1;clear hB1;go_region_law((go_simp;go_at_call 114;(with_reducible refine(HCS.out _).mono ?_);rintro e w7 ⟨rfl,rfl⟩));all_goals
    (try go_wp2_with fail)
    exact bodyPost_ret (v:=.tuple #[.agg #[.int .i64 4,.string (s.extract 0 1)],.string (lit RL),.bool OK]) (by simp[results,results122,go_sem,x0,x1,HX1.out]) rfl ⟨rfl,by
     first
     |exact(Hb.out.setCell (p:=⟨w.heap.size,0,none⟩) (aJ _) _).setCell (p:=⟨w.heap.size,1,none⟩) (aJ _) _
     |exact(Hb.out.drew.setCell (p:=⟨w.heap.size,0,none⟩) (aJ _) _).setCell (p:=⟨w.heap.size,1,none⟩) (aJ _) _⟩
  have hkp:0<kk:=by omega
  have aqT:(0:Int)<(kk:Int):=by omega
  have aqR:((kk:Int)==0)=false:=by simp;omega
  cases zs with
  |true=>
   have oN:=HE.out.symm.trans (oM r hq Xw.out);rw[HW.out.1,HW.out.2]at oN;have hx2:s.extract 0 kk=lit ((c::r).take kk):=by rw[qN,HL.out];rfl
   have hx3:s.extract kk s.size=lit ((c::r).drop kk):=by rw[qN,HL.out,List.take_of_length_le (by rw[List.length_drop,List.length_cons];have:=Ny.out;omega)]
   have hwo:=fun U (hU:Below w.heap.size w U)=>Xp (lit ((c::r).take kk)) U (by rw[jT,List.length_take,List.length_cons];have:=Ny.out;omega)
   rw[←hx2]at oN hwo;obtain⟨zq,UM⟩:∃z,oH (s.extract 0 kk)=z:=⟨_,rfl⟩;rw[UM]at oN hwo;simp only[Prod.mk.injEq,Token.mk.injEq]at oN;obtain⟨⟨rfl,rfl⟩,rfl,rfl⟩:=oN;have wJ:=ah hx3;have HWO:=ah hwo;clear hwo;clear hx2 hx3 UM;go_wp2_with(go_at_call 180;(with_reducible refine(HSM.out _).mono ?_);rintro e w' ⟨rfl,rfl⟩);have hB1:=HB.out;have hlt:=hB1.lt;have x0:=hB1.at_ 0 _ rfl;have x1:=hB1.at_ 1 _ rfl;have f0:=hB1.free 0;have f1:=hB1.free 1;clear hB1;go_region_law((go_simp;go_at_call 112;(with_reducible refine(HWO.out _ (by first|exact Hb.out|exact Hb.out.drew)).mono ?_);rintro e w7 ⟨rfl,hb7⟩;have xX:=Box.later (B:=wc.heap.size) HB.out (by first|exact hb7|(exact Below.trans (by go_grown) hb7)) HB.out.lt;clear x0 x1 f0 f1;have x0:=xX.at_ 0 _ rfl;have x1:=xX.at_ 1 _ rfl;have f0:=xX.free 0;have f1:=xX.free 1;have aob:=xX.lt;have hb8:=Hb.out.trans (by first|exact hb7.mono Hb.out.size|exact(Below.trans (by go_grown) hb7).mono Hb.out.size:Below w.heap.size wc w7);have Gg:=Lib.hid hb8;clear hb7 xX hb8));all_goals
    (try go_wp2_with fail)
    exact bodyPost_ret (v:=.tuple #[.agg #[.int .i64 1,.string (s.extract 0 kk)],.string (lit ((c::r).drop kk)),.bool OK]) (by simp[results,results122,go_sem,x0,x1,wJ.out]) rfl ⟨rfl,(Gg.out.setCell (p:=⟨w.heap.size,0,none⟩) (aJ _) _).setCell (p:=⟨w.heap.size,1,none⟩) (aJ _) _⟩
  |false=>
   have hw1:=HW1.out hkp;rw[hwd]at hw1;obtain rfl:zd=true:=by simpa using hw1
   clear hw1;have oN:=HE.out.symm.trans (oL r hq Xw.out HZD.out);rw[HW.out.1,HW.out.2]at oN;have hx2:s.extract 0 kk=lit ((c::r).take kk):=by rw[qN,HL.out];rfl
   have hx3:s.extract kk s.size=lit ((c::r).drop kk):=by rw[qN,HL.out,List.take_of_length_le (by rw[List.length_drop,List.length_cons];have:=Ny.out;omega)]
   have hwo:=fun U (hU:Below w.heap.size w U)=>YJ (lit ((c::r).take kk)) U mx (by rw[jT,List.length_take,List.length_cons];have:=Ny.out;omega) (HT.out.later hU)
   rw[←hx2]at oN hwo;obtain⟨zq,UM⟩:∃z,jC (s.extract 0 kk)=z:=⟨_,rfl⟩;rw[UM]at oN hwo;simp only[Prod.mk.injEq,Token.mk.injEq]at oN;obtain⟨⟨rfl,rfl⟩,rfl,rfl⟩:=oN;have wJ:=ah hx3;have HWO:=ah hwo;clear hwo;clear hx2 hx3 UM;go_wp2_with(go_at_call 180;(with_reducible refine(HSM.out _).mono ?_);rintro e w' ⟨rfl,rfl⟩);have hB1:=HB.out;have hlt:=hB1.lt;have x0:=hB1.at_ 0 _ rfl;have x1:=hB1.at_ 1 _ rfl;have f0:=hB1.free 0;have f1:=hB1.free 1;clear hB1;go_region_law((go_simp;go_at_call 194;(with_reducible refine(HWO.out _ (by first|exact Hb.out|exact Hb.out.drew)).mono ?_);rintro e w7 ⟨rfl,hb7⟩;have xX:=Box.later (B:=wc.heap.size) HB.out (by first|exact hb7|(exact Below.trans (by go_grown) hb7)) HB.out.lt;clear x0 x1 f0 f1;have x0:=xX.at_ 0 _ rfl;have x1:=xX.at_ 1 _ rfl;have f0:=xX.free 0;have f1:=xX.free 1;have aob:=xX.lt;have hb8:=Hb.out.trans (by first|exact hb7.mono Hb.out.size|exact(Below.trans (by go_grown) hb7).mono Hb.out.size:Below w.heap.size wc w7);have Gg:=Lib.hid hb8;clear hb7 xX hb8));all_goals
    (try go_wp2_with fail)
    exact bodyPost_ret (v:=.tuple #[.agg #[.int .i64 2,.string (s.extract 0 kk)],.string (lit ((c::r).drop kk)),.bool OK]) (by simp[results,results122,go_sem,x0,x1,wJ.out]) rfl ⟨rfl,(Gg.out.setCell (p:=⟨w.heap.size,0,none⟩) (aJ _) _).setCell (p:=⟨w.heap.size,1,none⟩) (aJ _) _⟩
theorem Uu(c:UInt8)(r:List UInt8):I64 (dP (c::r)).1.kind∧(dP (c::r)).1.text.size≤(c::r).length:=by
 have i:∀n:Int,1≤n→n≤4→I64 n:=fun n h1 h2=>⟨by omega,by omega⟩
 have ht:=(List.takeWhile_sublist pX (l:=c::r)).length_le
 by_cases hq:c=34
 ·subst hq;rw[qX];have:=(List.takeWhile_sublist lQ (l:=r)).length_le;exact⟨i 3 (by decide) (by decide),by show(lit _).size≤_;rw[jT,List.length_cons];omega⟩
 cases hs:fQ c with
 |true=>
  rw[oM r hq hs];exact⟨i 1 (by decide) (by decide),by show(lit _).size≤_;rw[jT];exact ht⟩
 |false=>
  cases hd:fC c with
  |true=>
   rw[oL r hq hs hd];exact⟨i 2 (by decide) (by decide),by show(lit _).size≤_;rw[jT];exact ht⟩
  |false=>
   rw[uD r hq hs hd];exact⟨i 4 (by decide) (by decide),by show(lit [c]).size≤_;rw[jT];simp⟩
theorem FW(s:ByteArray)(w:World):Calls prog 121 #[.string s,.string ⟨#[32]⟩] w fun e w'=>e=.returned (.string (lit (nM s.data.toList)))∧w=w':=
 (Tryz.strings_TrimLeft_one s 32 (by decide) w).mono fun e w' ⟨he,hw⟩=>⟨he,hw.symm⟩
theorem Qr{d:Token}:∀u∈[Value.int .i64 d.kind,.string d.text],u.oneCell'=true:=by
 intro u hu;simp only[List.mem_cons,List.not_mem_nil,or_false]at hu;rcases hu with rfl|rfl<;>rfl
theorem U8{o:Option (List Token)}{L:List Token}{t:Token}:(o.map (t:: ·)).map (L++ ·)=o.map ((L++ [t])++ ·):=by
 cases o with
 |none=>rfl
 |some x=>simp
theorem O1{s:ByteArray}(h:1500<s.size):wR s=([],1):=by unfold wR;rw[if_pos h]
theorem OZ{s:ByteArray}(h:s.size≤1500)(hc:zO (nM s.data.toList)=none):wR s=([],4):=by unfold wR;rw[if_neg (by omega),hc]
theorem OY{s:ByteArray}{L:List Token}(h:s.size≤1500)(hc:zO (nM s.data.toList)=some L)(h2:200<L.length):wR s=([],1):=by unfold wR;rw[if_neg (by omega),hc];simp only;rw[if_pos h2]
theorem OX{s:ByteArray}{L:List Token}(h:s.size≤1500)(hc:zO (nM s.data.toList)=some L)(h2:L.length≤200):wR s=(L,0):=by unfold wR;rw[if_neg (by omega),hc];simp only;rw[if_neg (by omega)]
def TA(E:List Token×Int)(w:World)(e:Ending)(w':World):Prop:=∃v,e=.returned (.tuple #[v,.int .i64 E.2])∧Below w.heap.size w w'∧SliceOf fG 2 24 w' (fresh w.heap.size w'.heap.size) v E.1
theorem Zi(s:ByteArray)(w:World)(mx:Int)(hT:Tabs w mx):Calls prog 80 #[.string s] w (TA (wR s) w):=by
 obtain⟨E,hE⟩:∃z,wR s=z:=⟨_,rfl⟩;rw[hE]
 by_cases h15:1500<s.size
 ·have Yj:(1500:Int)<(s.size:Int):=by omega
  obtain rfl:E=([],1):=by rw[←hE,O1 h15]
  clear hE;go_enter func80,ntmps80;go_wp2_with fail
  go_ret2
  exact⟨_,rfl,Below.refl _ _,SliceOf.nil_⟩
 have Yj:¬(1500:Int)<(s.size:Int):=by omega
 have htr:=FW s w;have hnx:=FW;have hX0:=FX s.data.toList;have hsl:s.data.toList.length=s.size:=rfl;obtain⟨X0,hXX⟩:∃z,nM s.data.toList=z:=⟨_,rfl⟩;obtain⟨T0,hT0⟩:∃z,zO X0=z:=⟨_,rfl⟩;have he0:T0=none→E=([],4):=fun h=>by rw[←hE];exact OZ (by omega) (by rw[hXX,hT0,h])
 have he1:∀L:List Token,T0=some L→200<L.length→E=([],1):=fun L h h2=>by rw[←hE];exact OY (by omega) (by rw[hXX,hT0,h]) h2
 have he2:∀L:List Token,T0=some L→L.length≤200→E=(L,0):=fun L h h2=>by rw[←hE];exact OX (by omega) (by rw[hXX,hT0,h]) h2
 rw[hXX]at htr hX0;have hXL:X0.length≤1500:=by omega
 obtain⟨HTR,Zr,HT0,Xr,vk,HE2,HT⟩:=aB htr hnx hT0 he0 he1 he2 hT;clear htr hnx hT0 he0 he1 he2 hT;clear hE hXX hsl hX0;go_enter func80,ntmps80;go_wp2_with fail;refine HTR.out.mono ?_;rintro e w' ⟨rfl,rfl⟩;go_wp2_with fail;go_loopg [0,4,5,6,7] X0.length (fun gg s0 s4 _ _ _ wr=>∃(X:List UInt8) (c:Nat) (A:Option Addr) (L:List Token),X.length≤gg∧s0=.string (lit X)∧s4=.slice A L.length c∧L.length+X.length≤1500∧Aside (T0=(zO X).map (L++ ·))∧
  Aside (aZ fG 2 182 w.heap.size wr none_ (.slice A L.length c) L)∧Aside (Below w.heap.size w wr))
 case atStart=>exact⟨X0,0,none,[],aJ _,rfl,rfl,by simpa using hXL,aside (by rw[HT0.out];simp),aside aZ.nil_,aside (Below.refl _ _)⟩
 case round=>
  obtain⟨X,c',A,L,hg,rfl,rfl,hle,hTT,hO,BW⟩:=hrel;cases X with
  |nil=>
   have hz:(lit []).toList.isEmpty=true:=by rw[bC];rfl
   have htt:T0=some L:=by rw[hTT.out,Kw];simp
   have he1:=vk.out L htt;have he2:=HE2.out L htt;have hsl:=hO.out.slice fG.stays (jZ:=24) (F':=fresh w.heap.size wr.heap.size) (fun k hk=>hk.elim) (fun k h1 h2=>⟨h1,h2⟩) (by omega) (by omega);have hz2:(lit []:ByteArray)=⟨#[]⟩:=rfl
   by_cases h2:200<L.length
   ·have h2z:(200:Int)<(L.length:Int):=by omega
    obtain rfl:=he1 h2;clear he1 he2 hsl htt hO hTT;rw[hz2];clear hz hz2;go_wp2_with fail
    go_ret2
    exact⟨_,rfl,BW.out,SliceOf.nil_⟩
   ·have h2z:¬(200:Int)<(L.length:Int):=by omega
    obtain rfl:=he2 (by omega);have HSL:=ah hsl;clear hsl;clear he1 he2 htt hO hTT;rw[hz2];clear hz hz2;go_wp2_with fail
    go_ret2
    exact⟨_,rfl,BW.out,HSL.out⟩
  |cons c r=>
   have hlen:(c::r).length=r.length+1:=List.length_cons;have hfi:=SC (lit (c::r)) c r wr mx (by rw[jT];omega) (E8 _) (HT.out.later BW.out);have hfk:=Uu c r;have hst:=Gv c r;have hls:=uz c r;obtain⟨⟨t,RL,ok⟩,hR⟩:∃z,dP (c::r)=z:=⟨_,rfl⟩;rw[hR]at hfi hfk hst hls;dsimp only at hfi hfk hst hls;have htl:=FX RL;have htt:=hTT.out;rw[hst]at htt;obtain⟨S,hS⟩:∃z,lit (c::r)=z:=⟨_,rfl⟩;have hne:S.toList.isEmpty=false:=by rw[←hS,bC,jT];simp
   rw[hS]at hfi⊢;obtain⟨k,tx⟩:=t;have hki:=hfk.1;have htx:okS tx:=by have:=hfk.2;unfold okS;dsimp only at this;omega
   dsimp only at hfi hki;obtain⟨X2,hX2⟩:∃z,nM RL=z:=⟨_,rfl⟩;have hnx:=fun U:World=>Zr.out (lit RL) U
   rw[E8,hX2]at hnx;rw[hX2]at htl htt;have hk1:=hki.1;have hk2:=hki.2;obtain⟨HFI,HTT,amJ⟩:=ak hfi htt hnx;clear hfi htt hnx;clear hR hfk hst hX2 hS hTT;go_wp2_with fail;refine HFI.out.mono ?_;rintro e W2 ⟨rfl,hb2⟩;have hO2:=hO.out.below fG.stays hb2;have hb2:=aS BW.out hb2;obtain⟨HO2,HB2⟩:=aj hO2 hb2;clear hO2 hb2;clear hne;go_upto_region 8 with fail
   have hBt:=Box.made W2 182 #[.int .i64 k,.string tx];have hbt:Below W2.heap.size W2 (W2.alloc (.cells #[.int .i64 k,.string tx] 182)):=by go_grown
   have pW:(W2.alloc (.cells #[.int .i64 k,.string tx] 182)).heap.size=W2.heap.size+1:=by simp
   generalize W2.alloc (.cells #[.int .i64 k,.string tx] 182)=W3 at hBt hbt pW⊢;have hO3:=HO2.out.below fG.stays hbt;have hb3:=aS HB2.out hbt;have x0:=hBt.at_ 0 _ rfl;have x1:=hBt.at_ 1 _ rfl;obtain⟨HO3,HB3⟩:=aj hO3 hb3;clear hO3 hb3;clear hBt hbt pW;cases ok with
   |false=>
    have htn:T0=none:=by rw[HTT.out];simp
    obtain rfl:=Xr.out htn;clear htn;go_wp2_with fail
    go_ret2
    exact⟨_,rfl,HB3.out,SliceOf.nil_⟩
   |true=>
    have htn:T0=(zO X2).map ((L++ [⟨k,tx⟩])++ ·):=by rw[HTT.out,if_pos rfl,U8]
    have HTN:=ah htn;clear htn;go_wp2_with(at_builtin;go_must((refine bH fG.stays (.agg #[.int .i64 0,.string ⟨#[]⟩]) [.int .i64 k,.string tx] ⟨k,tx⟩ rfl rfl underlying136 (bytes:=24) (by kernel_rfl) HO3.out rfl rfl (by decide) rfl rfl (show fG W3 none_ _ _ from⟨rfl,hki,htx⟩) (Qr (d:=⟨k,tx⟩)) (fun k hk=>hk.elim) (by unfold maxLen;omega) (by omega) HB3.out.size ?_);(intro A6 c6 W7 mV hgr _;have hb6:=HB3.out.trans (hgr.below (B:=w.heap.size) (aJ _) HB3.out.size);have uq:=Lib.hid mV;have kH:=Lib.hid hb6;clear mV hgr hb6)));refine(amJ.out _).mono ?_;rintro e w' ⟨rfl,rfl⟩;go_wp2_with fail;go_roundg X2.length
    case measure=>omega
    case rel=>
     refine⟨X2,c6,A6,L++ [⟨k,tx⟩],aJ _,rfl,by simp,by rw[List.length_append,List.length_singleton];omega,aside HTN.out,aside ?_,aside kH.out⟩;have h:=aZ.wider fG.stays uq.out (F':=none_) (fun k hk=>hk.elim id id) (fun k hk=>hk.elim);simpa using h
theorem aa0(c:UInt8)(r:List UInt8)(h:(dP (c::r)).2.2=true):lV (dP (c::r)).1=0:=by
 by_cases hq:c=34
 ·subst hq;rw[qX]at h⊢;rw[Bool.and_eq_true]at h;exact uj (by show(1:Int)≤3;decide) (by show(3:Int)≤4;decide) h.2
 cases hs:fQ c with
 |true=>
  rw[oM r hq hs]at h⊢;exact uj (by show(1:Int)≤1;decide) (by show(1:Int)≤4;decide) h
 |false=>
  cases hd:fC c with
  |true=>
   rw[oL r hq hs hd]at h⊢;exact uj (by show(1:Int)≤2;decide) (by show(2:Int)≤4;decide) h
  |false=>
   rw[uD r hq hs hd]at h⊢;exact uj (by show(1:Int)≤4;decide) (by show(4:Int)≤4;decide) h
theorem Ui:∀(n:Nat) (X:List UInt8) (L:List Token),X.length≤n→zO X=some L→∀t∈L,lV t=0
 |_,[],L,_,h=>by
  rw[Kw]at h;injection h with h
  subst h;intro t ht;cases ht
 |0,c::r,_,hn,_=>by simp at hn
 |n+1,c::r,L,hn,h=>by
  rw[Gv]at h;split at h
  ·next hok=>
   have h1:=uz c r;have h2:=FX (dP (c::r)).2.1;cases hx:zO (nM (dP (c::r)).2.1)with
   |none=>rw[hx]at h;cases h
   |some M=>
    rw[hx]at h;injection h with h
    subst h;intro t ht;rcases List.mem_cons.1 ht with rfl|ht
    ·exact aa0 c r hok
    ·exact Ui n _ M (by omega) hx t ht
  ·cases h
theorem aaS{s:ByteArray}{L:List Token}(h:wR s=(L,0)):s.size≤1500∧zO (nM s.data.toList)=some L∧L.length≤200:=by
 unfold wR at h;split at h
 ·injection h with _ h;cases h
 split at h
 ·injection h with _ h;cases h
 next M hM=>
  split at h
  ·injection h with _ h;cases h
  ·injection h with h _
   subst h;exact⟨by omega,hM,by omega⟩
end Go.Proofs.YtjaladhdnbhliaaGreatDoor
