/- Parts. -/
import Derived.Test.YtjaladhdnbhliaaGreatDoorQRefLine
import Derived.Test.YtjaladhdnbhliaaGreatDoorQTokOf
import Derived.Test.YtjaladhdnbhliaaGreatDoorQFaceGood
set_option maxHeartbeats 8000000
namespace Go.Proofs.YtjaladhdnbhliaaGreatDoor
open Go.Proofs.Tryz
open Go.RowKit Go.Shelf
def Scan(l:List UInt8)(R:Except Int Module)(kk fr:Nat)(m:Module):Prop:=
 (kk≤l.length∧fr≤kk∧R=mG m (iP (l.drop fr))∧((l.drop fr).take (kk-fr)).all sH=true)∨(kk=l.length+1∧R=.ok m)
section
variable {l:List UInt8} {R:Except Int Module} {kk fr:Nat} {m m':Module}
theorem Scan.skip(h:Scan l R kk fr m)(hk:kk<l.length)(hc:l[kk]≠10):Scan l R (kk+1) fr m:=by
 rcases h with ⟨_,h1,h2,h3⟩|⟨h,_⟩
 ·refine .inl ⟨hk,by omega,h2,?_⟩;rw[show kk+1-fr=kk-fr+1 by omega,List.take_add_one,List.getElem?_drop,show fr+(kk-fr)=kk by omega,aK hk,Option.toList_some,List.all_append,h3];simp[sH,hc]
 ·omega
theorem Scan.line(h:Scan l R kk fr m)(hk:kk≤l.length)(hc:∀h:kk<l.length,l[kk]=10):fr≤kk∧∃rs,R=mG m ((l.drop fr).take (kk-fr)::rs)∧(kk=l.length→rs= [])∧(kk<l.length→rs=iP (l.drop (kk+1))):=by
 rcases h with ⟨_,h1,h2,h3⟩|⟨h,_⟩
 ·refine⟨h1,?_⟩
  by_cases he:kk=l.length
  ·refine⟨[],?_,fun _=>rfl,fun h=>by omega⟩;rw[List.take_of_length_le (by rw[List.length_drop];omega)]at h3⊢;rw[h2,LH h3]
  ·have hk':kk<l.length:=by omega
   refine⟨iP (l.drop (kk+1)),?_,fun h=>by omega,fun _=>rfl⟩;have hs:l.drop fr=(l.drop fr).take (kk-fr)++10::l.drop (kk+1):=by
    conv=>lhs;rw[←List.take_append_drop (kk-fr) (l.drop fr),List.drop_drop,show fr+(kk-fr)=kk by omega,List.drop_eq_getElem_cons hk',hc hk']
   rw[h2]
   conv=>lhs;rw[hs,Aq h3]
 ·omega
theorem Scan.next(h:Scan l R kk fr m)(hk:kk≤l.length)(hc:∀h:kk<l.length,l[kk]=10)(ht:nK m (lit ((l.drop fr).take (kk-fr)))=.ok m'):Scan l R (kk+1) (kk+1) m':=by
 obtain⟨_,rs,h2,h3,h4⟩:=h.line hk hc;rw[Hu ht]at h2
 by_cases he:kk=l.length
 ·rw[h3 he]at h2;exact .inr ⟨by omega,h2⟩
 ·rw[h4 (by omega)]at h2;exact .inl ⟨by omega,aJ _,h2,by simp⟩
theorem Scan.fall(h:Scan l R kk fr m)(hk:kk≤l.length)(hc:∀h:kk<l.length,l[kk]=10){k:Int}(ht:nK m (lit ((l.drop fr).take (kk-fr)))=.error k):R=.error k:=by
 obtain⟨_,rs,h2,_⟩:=h.line hk hc;rw[Ht ht]at h2;exact h2
end
theorem jK.below{bm B n:Nat}{w w':World}(h:jK bm B w w')(h1:n≤bm)(h2:n≤B):Below n w w':=⟨h.os,h.tape,h.output,h.size,fun k hk=>h.block k (by omega) (by omega)⟩
set_option maxRecDepth 100000 in
theorem RH(s:ByteArray)(W0:World):Calls prog 41 #[.string s] W0 (TS (kF s) W0):=by
 obtain⟨E,hE⟩:∃E,kF s=E:=⟨_,rfl⟩;rw[hE]
 by_cases h15:1500<s.size
 ·have Yj:(1500:Int)<(s.size:Int):=by omega
  obtain rfl:E=(jJ,1):=by rw[←hE,H6 h15]
  clear hE;go_enter func41,ntmps41;go_upto_region 1 with fail
  have hBr:=Box.made W0 27 #[.slice none 0 0,.slice none 0 0,.slice none 0 0];have hbr:Below W0.heap.size W0 (W0.alloc (.cells #[.slice none 0 0,.slice none 0 0,.slice none 0 0] 27)):=by go_grown
  have kJ:(W0.alloc (.cells #[.slice none 0 0,.slice none 0 0,.slice none 0 0] 27)).heap.size=W0.heap.size+1:=by simp
  generalize W0.alloc (.cells #[.slice none 0 0,.slice none 0 0,.slice none 0 0] 27)=W1 at hBr hbr kJ⊢;have x0:=hBr.at_ 0 _ rfl;have x1:=hBr.at_ 1 _ rfl;have x2:=hBr.at_ 2 _ rfl;have g0:=hBr.free 0;have g1:=hBr.free 1;have g2:=hBr.free 2;have Hb:=ah hbr;clear hbr;clear hBr kJ;go_wp2_with fail;refine bodyPost_ret (v:=.tuple #[.agg #[.slice none 0 0,.slice none 0 0,.slice none 0 0],.int .i64 1]) (by simp[results,results41,go_sem,x0,x1,x2]) rfl ?_;exact⟨_,_,_,rfl,((Hb.out.setCell (aJ _) _).setCell (aJ _) _).setCell (aJ _) _,qE _ _⟩
 have Yj:¬(1500:Int)<(s.size:Int):=by omega
 obtain⟨l,hl⟩:∃l,s.data.toList=l:=⟨_,rfl⟩;have hsl:l.length=s.size:=by rw[←hl,Array.length_toList];rfl
 obtain⟨R,hR⟩:∃R,mG jJ (iP l)=R:=⟨_,rfl⟩;have hxt:∀i j,s.extract i j=lit ((l.drop i).take (j-i)):=fun i j=>by rw[qN,hl]
 have hgt:∀k (h1:k<s.size) (h2:k<l.length),s[k]=l[k]:=fun k h1 h2=>by subst hl;rfl
 have hbad:∀k,R=.error k→E=(jJ,k):=fun k hk=>by rw[←hE,Me (by omega) (by rw[hl,hR];exact hk)]
 have akO:∀m,R=.ok m→dD m≠0→E=(jJ,dD m):=fun m hk h=>by rw[←hE,DX (by omega) (by rw[hl,hR];exact hk) h]
 have hfin:∀m,R=.ok m→dD m=0→E=(m,0):=fun m hk h=>by rw[←hE,RU (by omega) (by rw[hl,hR];exact hk) h]
 obtain⟨HSL,HR,HXT,HGT,HBAD,amf,amh⟩:=aB hsl hR hxt hgt hbad akO hfin;clear hsl hR hxt hgt hbad akO hfin;clear hE hl;go_enter func41,ntmps41;go_upto_region 1 with fail
 have hBr:=Box.made W0 27 #[.slice none 0 0,.slice none 0 0,.slice none 0 0];have hbr:Below W0.heap.size W0 (W0.alloc (.cells #[.slice none 0 0,.slice none 0 0,.slice none 0 0] 27)):=by go_grown
 have kJ:(W0.alloc (.cells #[.slice none 0 0,.slice none 0 0,.slice none 0 0] 27)).heap.size=W0.heap.size+1:=by simp
 generalize W0.alloc (.cells #[.slice none 0 0,.slice none 0 0,.slice none 0 0] 27)=W1 at hBr hbr kJ⊢;obtain⟨HB1,Hb,HZR⟩:=ak hBr hbr kJ;clear hBr hbr kJ;go_upto_region 4 with fail
 have hBm:=Box.made W1 27 #[.slice none 0 0,.slice none 0 0,.slice none 0 0];have hbm:Below W1.heap.size W1 (W1.alloc (.cells #[.slice none 0 0,.slice none 0 0,.slice none 0 0] 27)):=by go_grown
 have hzm:(W1.alloc (.cells #[.slice none 0 0,.slice none 0 0,.slice none 0 0] 27)).heap.size=W1.heap.size+1:=by simp
 generalize W1.alloc (.cells #[.slice none 0 0,.slice none 0 0,.slice none 0 0] 27)=W2 at hBm hbm hzm⊢;obtain⟨bm,hbe⟩:∃n,W1.heap.size=n:=⟨_,rfl⟩;have hB2:=HB1.out.later hbm HB1.out.lt;have hb2:=Hb.out.trans (hbm.mono Hb.out.size);have hbW:W0.heap.size<bm:=by have:=HZR.out;omega
 have anY:=hBm.lt;rw[hbe]at hBm anY⊢;have agz:Ep W2 bm (bm+1) jJ:=⟨_,_,_,_,_,_,_,_,qg.start hBm (by omega)⟩;have hz2:W2.heap.size=bm+1:=by omega
 obtain⟨HB2,agQ,af5⟩:=ak hB2 hb2 agz;clear hB2 hb2 agz;clear hbm hzm hbe HB1 Hb HZR hBm;go_wp2_with fail;go_loopg [5,6] (s.size+1) (fun gg s5 s6 wr=>∃(kk fr:Nat) (m:Module),kk≤s.size+1∧s.size+1-kk≤gg∧s6=.int .i64 kk∧s5=.int .i64 fr∧tot m≤kk∧Aside (Scan l R kk fr m)∧Aside (Ep wr bm (bm+1) m)∧Aside (jK bm (bm+1) W2 wr))
 case atStart=>exact⟨0,0,jJ,by omega,by omega,rfl,rfl,aJ _,aside (.inl ⟨Nat.zero_le _,aJ _,HR.out.symm,rfl⟩),aside af5.out,aside (jK.refl _ _ _)⟩
 case round=>
  clear af5;obtain⟨kk,fr,m,hkk,hg,rfl,rfl,htot,hsc,hmd,hst⟩:=hrel;obtain⟨W3,rfl⟩:∃W,W=wr:=⟨_,rfl⟩;have hsl:=HSL.out
  by_cases hle:kk≤s.size
  ·have hlez:(kk:Int)≤(s.size:Int):=by omega
   obtain⟨z,hz⟩:∃z,(decide (kk<s.size)&& !(l[kk]? ==some 10))=z:=⟨_,rfl⟩;have pW:z=true→∃h:kk<l.length,l[kk]≠10:=fun h=>by
    rw[h,Bool.and_eq_true,decide_eq_true_eq]at hz;refine⟨by omega,fun e=>?_⟩;have h2:=hz.2;rw[aK (by omega),e]at h2;cases h2
   have Jk:z=false→∀h:kk<l.length,l[kk]=10:=fun h hk=>by
    rw[h,decide_eq_true (by omega:kk<s.size),Bool.true_and,aK hk]at hz;simpa using hz
   obtain⟨Xx,HZF⟩:=aj pW Jk;clear pW Jk;go_upto_region 8 with fail
   go_cut [30] (fun t wc=>t=.bool z∧Aside (wc=W3))
   case first=>
    by_cases hlt:kk<s.size
    ·have hltz:(kk:Int)<(s.size:Int):=by omega
     have hgt:=HGT.out kk hlt (by omega);rw[decide_eq_true hlt,Bool.true_and,aK (by omega),←hgt]at hz;have hb:(s[kk].toNat:Int)<256:=by have:=s[kk].toNat_lt;omega
     have hcz:(!((s[kk].toNat:Int)==10))=z:=by
      rw[←hz]
      congr 1
      rw[Bool.eq_iff_iff];simp only[beq_iff_eq,Option.some.injEq];constructor
      ·intro h;exact UInt8.toNat.inj (by show _=10;omega)
      ·intro h;rw[h];rfl
     have hcz2:((s[kk].toNat:Int)!=10)=z:=hcz;clear hgt hz;go_wp2_with fail;go_meet;exact⟨by first|rfl|exact congrArg Value.bool hcz2|(simp only[hcz2]),aside rfl⟩
    ·have hltz:¬((kk:Int)<(s.size:Int)):=by omega
     have yU:decide (kk<s.size)=false:=decide_eq_false hlt;rw[yU,Bool.false_and]at hz;subst hz;go_wp2_with fail;go_meet;exact⟨by first|rfl|simp,aside rfl⟩
   case rest=>
    obtain⟨rfl,hwc⟩:=hcut;have hwc:=hwc.out;subst hwc;obtain⟨w9,rfl⟩:∃W,W=wc:=⟨_,rfl⟩;clear hz;cases z with
    |true=>
     obtain⟨hk1,hk2⟩:=Xx.out rfl;have hsc2:=hsc.out.skip hk1 hk2;have ahm:=ah hsc2;clear hsc2;clear hk2;go_wp2_with fail;go_roundg (s.size+1-(kk+1))
     case measure=>omega
     case rel=>exact⟨kk+1,fr,m,by omega,aJ _,by go_num,rfl,by omega,aside ahm.out,hmd,hst⟩
    |false=>
     have Jk:=HZF.out rfl;obtain⟨hfr,_⟩:=hsc.out.line (by omega) Jk;have hx:=HXT.out fr kk;have hfz:(fr:Int)≤(kk:Int):=by omega
     have hto:=SH (s.extract fr kk) w9;obtain⟨⟨L,f⟩,hE⟩:∃E,wR (s.extract fr kk)=E:=⟨_,rfl⟩;rw[hE]at hto;have hnext:∀m',nK m (s.extract fr kk)=.ok m'→Scan l R (kk+1) (kk+1) m':=fun m' h=>hsc.out.next (by omega) Jk (by rw[←hx];exact h)
     have agx:∀k,nK m (s.extract fr kk)=.error k→R=.error k:=fun k h=>hsc.out.fall (by omega) Jk (by rw[←hx];exact h)
     have hln:nK m (s.extract fr kk)=if f≠0 then .error f else Ap m L:=by unfold nK;rw[hE]
     obtain⟨HTO,HE,rZ,TD,HLN⟩:=ay hto hE hnext agx hln;clear hto hE hnext agx hln;clear hx Jk;go_wp2_with fail;refine HTO.out.mono ?_;rintro en W4 ⟨v,rfl,hb4,afz⟩;have jB:jK bm (bm+1) W2 W4:=hst.out.trans (jK.of_below hb4 (by have:=hst.out.size;omega));have hs4:=jB.size;clear hfr
     by_cases hf0:f=0
     ·subst hf0;obtain⟨htl,_,htn⟩:=Ky HE.out;obtain⟨A,c,rfl,-⟩:=SliceOf.form afz;obtain⟨U,T,X,cu,ct,cx,Gt,Gf,xg⟩:=hmd.out;have akW:nK m (s.extract fr kk)=Ap m L:=by rw[HLN.out,if_neg (by simp)]
      have afA:m.uses.length≤4000∧m.types.length≤4000∧m.funcs.length≤4000:=by unfold tot at htot;omega
      have hlo:=YH W4 L afz (fun k hk=>hk.2) htn htl (xg.later hb4) (by omega) afA.1 afA.2.1 afA.2.2;obtain⟨aaH,ag7,HLO⟩:=ak jB akW hlo;clear jB akW hlo;clear afz hb4 hst hmd xg HTO HLN afA htl htn;go_wp2_with fail;refine HLO.out.mono ?_;rintro en W5 ⟨m',k,abg,hst5,rfl,hk⟩;have UK:=aaH.out.trans hst5;rcases hk with ⟨rfl,hk⟩|⟨hk0,hk⟩
      ·have hsc2:=rZ.out m' (ag7.out.trans hk);have htt:=LG hk;obtain⟨ahm,amC,QB⟩:=ak hsc2 abg UK;clear hsc2 abg UK;clear hk hst5 rZ TD HLO;go_wp2_with fail;go_roundg (s.size+1-(kk+1))
       case measure=>omega
       case rel=>exact⟨kk+1,kk+1,m',by omega,aJ _,by go_num,by go_num,by omega,aside ahm.out,aside amC.out,aside QB.out⟩
      ·have hx:E=(jJ,k):=HBAD.out k (TD.out k (ag7.out.trans hk));have hk1:(k==0)=false:=by simp[hk0]
       have hk2:(k !=0)=true:=by simp[hk0]
       have F6:=UK.box HB2.out (by omega) (by omega);have hbw:=agQ.out.trans ((UK.below (n:=W0.heap.size) (by omega) (by omega)).mono (aJ _));subst hx;have r0:=F6.at_ 0 _ rfl;have r1:=F6.at_ 1 _ rfl;have r2:=F6.at_ 2 _ rfl;have g0:=F6.free 0;have g1:=F6.free 1;have g2:=F6.free 2;have cO:=ah hbw;clear hbw;clear hk hk0 hst5 UK abg F6 rZ TD HLO ag7;go_wp2_with fail;refine bodyPost_ret (v:=.tuple #[.agg #[.slice none 0 0,.slice none 0 0,.slice none 0 0],.int .i64 k]) (by simp[results,results41,go_sem,r0,r1,r2]) rfl ?_;exact⟨_,_,_,rfl,((cO.out.setCell (aJ _) _).setCell (aJ _) _).setCell (aJ _) _,qE _ _⟩
     ·have hx:E=(jJ,f):=HBAD.out f (TD.out f (by rw[HLN.out,if_pos hf0]));have hf1:(f==0)=false:=by simp[hf0]
      have hf2:(f !=0)=true:=by simp[hf0]
      have F6:=jB.box HB2.out (by omega) (by omega);have hbw:=agQ.out.trans ((jB.below (n:=W0.heap.size) (by omega) (by omega)).mono (aJ _));subst hx;have r0:=F6.at_ 0 _ rfl;have r1:=F6.at_ 1 _ rfl;have r2:=F6.at_ 2 _ rfl;have g0:=F6.free 0;have g1:=F6.free 1;have g2:=F6.free 2;have cO:=ah hbw;clear hbw;clear jB F6 rZ TD HLN HTO HE hb4 afz hf0;go_wp2_with fail;refine bodyPost_ret (v:=.tuple #[.agg #[.slice none 0 0,.slice none 0 0,.slice none 0 0],.int .i64 f]) (by simp[results,results41,go_sem,r0,r1,r2]) rfl ?_;exact⟨_,_,_,rfl,((cO.out.setCell (aJ _) _).setCell (aJ _) _).setCell (aJ _) _,qE _ _⟩
  ·have hlez:¬((kk:Int)≤(s.size:Int)):=by omega
   have apk:decide (kk≤s.size)=false:=decide_eq_false hle;have hok:R=.ok m:=by
    rcases hsc.out with ⟨h,_⟩|⟨_,h⟩
    ·omega
    ·exact h
   have htt:tot m≤1501:=by omega
   obtain⟨U,T,X,cu,ct,cx,Gt,Gf,xg⟩:=hmd.out;unfold tot at htt;have hM:aN W3 (fresh (bm+1) W3.heap.size) [.slice U m.uses.length cu,.slice T m.types.length ct,.slice X m.funcs.length cx] m:=
    ⟨_,_,_,rfl,xg.us.slice aY.stays (fun k hk=>hk.elim) (fun k h1 h2=>⟨h1,h2⟩) (by omega) (by omega),xg.ts.slice aQ.stays (fun k hk=>⟨xg.lo k (.inl hk),(xg.ts.foot hk).1⟩) (fun k h1 h2=>⟨h1,h2⟩) (by omega) (by omega),xg.fs.slice dF.stays (fun k hk=>⟨xg.lo k (.inr hk),(xg.fs.foot hk).1⟩) (fun k h1 h2=>⟨h1,h2⟩) (by omega) (by omega)⟩
   have hmf:=Jq m [.slice U m.uses.length cu,.slice T m.types.length ct,.slice X m.funcs.length cx] (fresh (bm+1) W3.heap.size) W3 (fun k hk=>hk.2) hM;obtain⟨z,hz⟩:∃z,dD m=z:=⟨_,rfl⟩;rw[hz]at hmf;have hB3:=hst.out.box HB2.out (by omega) (by omega);have hbw3:=agQ.out.trans ((hst.out.below (n:=W0.heap.size) (by omega) (by omega)).mono (aJ _));have hbx:=xg.box;have Tt:=xg.box.lt;have hs3:=hst.out.size;have x0:=hbx.at_ 0 _ rfl;have x1:=hbx.at_ 1 _ rfl;have x2:=hbx.at_ 2 _ rfl;obtain⟨HMF,Tc,xH,HZ,HB3,fV,oq⟩:=aB hmf hM hok hz hB3 hbw3 hbx;clear hmf hM hok hz hB3 hbw3 hbx;clear xg hst hmd hsc htt;go_wp2_with fail;refine HMF.out.mono ?_;rintro en W4 ⟨rfl,hb4⟩;have hB4:=HB3.out.later hb4 HB3.out.lt;have afq:=oq.out.later hb4 oq.out.lt;have hM4:=aN.stays.later Tc.out hb4 (fun k hk=>hk.2);have ER:=fV.out.trans (hb4.mono fV.out.size);have hs4:=hb4.size;clear x0 x1 x2;have x0:=afq.at_ 0 _ rfl;have x1:=afq.at_ 1 _ rfl;have x2:=afq.at_ 2 _ rfl;have r0:=hB4.at_ 0 _ rfl;have r1:=hB4.at_ 1 _ rfl;have r2:=hB4.at_ 2 _ rfl;have g0:=hB4.free 0;have g1:=hB4.free 1;have g2:=hB4.free 2;obtain⟨cO,TK⟩:=aj ER hM4;clear ER hM4;clear hb4 hB4 afq HB3 oq Tc HMF fV
   by_cases hz0:z=0
   ·subst hz0;have hx:E=(m,0):=amh.out m xH.out HZ.out;subst hx;go_wp2_with fail;refine bodyPost_ret (v:=.tuple #[.agg #[.slice U m.uses.length cu,.slice T m.types.length ct,.slice X m.funcs.length cx],.int .i64 0]) (by simp[results,results41,go_sem,r0,r1,r2]) rfl ?_;refine⟨_,_,_,rfl,((cO.out.setCell (aJ _) _).setCell (aJ _) _).setCell (aJ _) _,?_⟩;have hnr:¬fresh (bm+1) W3.heap.size W0.heap.size:=fun h=>by have:=h.1;omega
    refine aN.stays _ _ _ _ _ _ TK.out ?_ ((((Keeps.refl _ _).setCell hnr _).setCell hnr _).setCell hnr _);simp only[size_set];exact jQ (by omega) (by omega)
   ·have hz1:(z==0)=false:=by simp[hz0]
    have hz2:(z !=0)=true:=by simp[hz0]
    have hx:E=(jJ,z):=by
     have:=amf.out m xH.out (by rw[HZ.out];exact hz0);rw[HZ.out]at this;exact this
    subst hx;clear hz0;go_wp2_with fail;refine bodyPost_ret (v:=.tuple #[.agg #[.slice none 0 0,.slice none 0 0,.slice none 0 0],.int .i64 z]) (by simp[results,results41,go_sem,r0,r1,r2]) rfl ?_;exact⟨_,_,_,rfl,((cO.out.setCell (aJ _) _).setCell (aJ _) _).setCell (aJ _) _,qE _ _⟩
theorem EG(a:ByteArray):iT a a=true:=by simp[iT]
theorem Rq(a:Known):yw a a=true:=by simp[yw,EG]
theorem Za(a:kR):y7 a a=true:=by simp[y7,EG,qZ EG]
theorem Ut(a:gU):rP a a=true:=by simp[rP,qZ Rq,qZ Za]
theorem Uj(a:og):rO a a=true:=by simp[rO,EG]
end Go.Proofs.YtjaladhdnbhliaaGreatDoor
