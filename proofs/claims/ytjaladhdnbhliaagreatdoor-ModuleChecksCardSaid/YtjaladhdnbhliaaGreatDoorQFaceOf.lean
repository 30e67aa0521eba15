/- Parts. -/
import Derived.Test.YtjaladhdnbhliaaGreatDoorQTypesR
import Derived.Test.YtjaladhdnbhliaaGreatDoorQSigOf
set_option maxHeartbeats 16000000
namespace Go.Proofs.YtjaladhdnbhliaaGreatDoor
open Go.Proofs.Tryz
open Go.RowKit Go.Shelf
theorem Yz{α:Type}{f:α→ByteArray}{y x:α}{P:List α}{d z:Bool}(h:(!d&&nT (f y) (f x))=z):kZ f y (P,d) x=if z=true then(P++ [y,x],true)else(P++ [x],d):=by
 subst h;cases d with
 |true=>simp[kZ]
 |false=>cases hq:nT (f y) (f x)<;>simp[kZ,hq]
set_option maxRecDepth 100000 in
theorem Yf(m:Module)(l:List Import)(hm0:dD m=0)(hl0:bG l=0)(ds:List Value)(lv:Value)(w:World)
  (hm:aN w (old w.heap.size) ds m) (hl:SliceOf aU 4 72 w (old w.heap.size) lv l):
  Calls prog 49 #[.agg ds.toArray,lv] w fun e w'=>∃(cs:List Value) (v2:Value),e=.returned (.tuple #[.agg cs.toArray,v2])∧Below w.heap.size w w'∧bD w' (fresh w.heap.size w'.heap.size) cs (lY m l)∧SliceOf bn 2 24 w' (fresh w.heap.size w'.heap.size) v2 (ZK m l):=by
 obtain⟨U1,u1,T1,e1,T2,e2,rfl,_,_,hT⟩:=aN.form hm;obtain⟨L1,l1,rfl,_⟩:=hl.form;have ng:=gJ hm0;have hty:=fun(U:World) (hU:Below w.heap.size w U)=>I8 m l hm0 hl0 _ _ U (dI aN.stays hm hU) (bK aU.stays hl hU)
 have hso:=fun(k:Nat) (hk:k<m.funcs.length) (U:World) (hU:Below w.heap.size w U)=>Qi m l hm0 hl0 k _ _ U hk (dI aN.stays hm hU) (bK aU.stays hl hU)
 have hTc:=hT.caps;have ail:m.funcs.length≤24:=by omega
 unfold lY;obtain⟨E,hE⟩:∃z,typesOf m l=z:=⟨_,rfl⟩;rw[hE];rw[hE]at hty;obtain⟨XV,HSO,HT,rG,HE⟩:=ay hty hso hT ng hE;clear hty hso hT ng hE;clear hm hl hm0 hl0;go_enter func49,ntmps49;go_upto_region 2 with fail
 have dX:=(((Box.made w 27 #[.slice U1 m.uses.length u1,.slice T1 m.types.length e1,.slice T2 m.funcs.length e2]).alloc (.cells #[.slice none 0 0,.slice none 0 0] 42)).alloc (.cells #[.slice none 0 0,.slice none 0 0] 42));have dM:=((Box.made (w.alloc (.cells #[.slice U1 m.uses.length u1,.slice T1 m.types.length e1,.slice T2 m.funcs.length e2] 27)) 42 #[.slice none 0 0,.slice none 0 0]).alloc (.cells #[.slice none 0 0,.slice none 0 0] 42));rw[show(w.alloc (.cells #[.slice U1 m.uses.length u1,.slice T1 m.types.length e1,.slice T2 m.funcs.length e2] 27)).heap.size=w.heap.size+1 by simp only[World.size_alloc]]at dM;have fE:=(Box.made ((w.alloc (.cells #[.slice U1 m.uses.length u1,.slice T1 m.types.length e1,.slice T2 m.funcs.length e2] 27)).alloc (.cells #[.slice none 0 0,.slice none 0 0] 42)) 42 #[.slice none 0 0,.slice none 0 0]);rw[show((w.alloc (.cells #[.slice U1 m.uses.length u1,.slice T1 m.types.length e1,.slice T2 m.funcs.length e2] 27)).alloc (.cells #[.slice none 0 0,.slice none 0 0] 42)).heap.size=w.heap.size+1+1 by simp only[World.size_alloc]]at fE;have hbb:Below w.heap.size w (((w.alloc (.cells #[.slice U1 m.uses.length u1,.slice T1 m.types.length e1,.slice T2 m.funcs.length e2] 27)).alloc (.cells #[.slice none 0 0,.slice none 0 0] 42)).alloc (.cells #[.slice none 0 0,.slice none 0 0] 42)):=by go_grown
 have hzb:(((w.alloc (.cells #[.slice U1 m.uses.length u1,.slice T1 m.types.length e1,.slice T2 m.funcs.length e2] 27)).alloc (.cells #[.slice none 0 0,.slice none 0 0] 42)).alloc (.cells #[.slice none 0 0,.slice none 0 0] 42)).heap.size=w.heap.size+1+1+1:=by simp only[World.size_alloc]
 generalize((w.alloc (.cells #[.slice U1 m.uses.length u1,.slice T1 m.types.length e1,.slice T2 m.funcs.length e2] 27)).alloc (.cells #[.slice none 0 0,.slice none 0 0] 42)).alloc (.cells #[.slice none 0 0,.slice none 0 0] 42)=W1 at dX dM fE hbb hzb⊢;have m0:=dX.at_ 0 _ rfl;have m1:=dX.at_ 1 _ rfl;have m2:=dX.at_ 2 _ rfl;obtain⟨HB1,HB2,HB3,HB,HZ1⟩:=ay dX dM fE hbb hzb;clear dX dM fE hbb hzb;go_wp2_with fail;refine(XV.out W1 HB.out).mono ?_;rintro e W2 ⟨v1,v1',rfl,hb2,hr2,hs2⟩;obtain⟨A5,c5,rfl,_⟩:=hr2.form;obtain⟨A6,c6,rfl,_⟩:=hs2.form;clear m0 m1 m2 hs2;have hz1:=HZ1.out;have hB3:=HB3.out.later hb2 HB3.out.lt;have hfc:Facing w (W2.setCell ⟨w.heap.size+1+1,0,none⟩ (.slice A5 E.length c5)) W2.heap.size #[.slice U1 m.uses.length u1,.slice T1 m.types.length e1,.slice T2 m.funcs.length e2] E (.slice A5 E.length c5) none_ (.slice none 0 0) (.slice none 0 0) [] []:=by
  have hs:=hb2.size;refine⟨(HB.out.trans (hb2.mono HB.out.size)).setCell (by simp;omega) _,(HB1.out.later hb2 HB1.out.lt).far (by simp;omega) _,(HB2.out.later hb2 HB2.out.lt).far (by simp) _,by simpa using hB3.put 0 (.slice A5 E.length c5),hr2.stays aW.stays (fun k hk=>⟨by have:=hk.1;omega,hk.2⟩) ((Keeps.refl _ _).setCell (fun hk=>by have:=hk.1;simp at this<;>omega) _),aZ.nil_,aZ.nil_,fun k hk=>hk.elim,(fun g hg=>by cases hg),fun k hk=>hk.elim,by omega,by simp⟩
 have y0:=hB3.at_ 0 _ rfl;have y1:=hB3.at_ 1 _ rfl;have g0:=hB3.free 0;have HFC:=ah hfc;clear hfc;clear hB3 hr2 hb2 HB1 HB2 HB3 HB;go_upto_region 4 with fail
 obtain⟨W3,hW3⟩:∃W,W2.setCell ⟨w.heap.size+1+1,0,none⟩ (.slice A5 E.length c5)=W:=⟨_,rfl⟩;rw[hW3];have hfc:=HFC.out;rw[hW3]at hfc;clear HFC hW3 y0 y1 g0 XV HZ1 hz1;have HFC:=ah hfc;clear hfc;go_wp2_with fail;go_loopg [7,8,9,10,11,12,13] m.funcs.length (fun gg s7 s8 s9 s10 s11 s12 s13 wr=>∃(kk n c n2 c2:Nat) (A A2:Option Addr) (G:aV),kk≤m.funcs.length∧m.funcs.length-kk≤gg∧s8=.int .i64 kk∧s7=.slice A2 n2 c2∧Aside (n=(jf kR.name (iY m l kk)).length)∧Aside (n2=(je m l kk).length)∧
  Aside (Facing w wr W2.heap.size #[.slice U1 m.uses.length u1,.slice T1 m.types.length e1,.slice T2 m.funcs.length e2] E (.slice A5 E.length c5) G (.slice A n c) (.slice A2 n2 c2) (jf kR.name (iY m l kk)) (je m l kk)))
 case atStart=>exact⟨0,0,0,0,0,none,none,none_,Nat.zero_le _,by omega,rfl,rfl,aside rfl,aside rfl,aside HFC.out⟩
 case round=>
  obtain⟨kk,n,c,n2,c2,A,A2,G,hkk,hg,rfl,rfl,hn,hn2,hF⟩:=hrel;obtain⟨wo,rfl⟩:∃W,W=wr:=⟨_,rfl⟩;clear HFC;have hf:=hF.out;have m0:=hf.bm.at_ 0 _ rfl;have m1:=hf.bm.at_ 1 _ rfl;have m2:=hf.bm.at_ 2 _ rfl
  by_cases hlt:kk<m.funcs.length
  ·have hltz:(kk:Int)<(m.funcs.length:Int):=by omega
   have hat:=bK dF.stays HT.out hf.below;obtain⟨bp,lF,cs,hP1,jc,hcs,hpr,hcell⟩:=hat.at_ (k:=kk) hlt;have hpx:=aK hlt;generalize m.funcs[kk]=p at hpx hpr;obtain⟨P1,p1,a1,a2,a3,a4,b1,b2,b3,b4,b5,rfl,hn0,hv0,_,hR,hX⟩:=dF.form hpr;have hc0:=hcell 0 _ rfl;simp only[Nat.add_zero]at hc0;subst hP1;have hqp:bp<wo.heap.size:=jc;have hg4:=xB (m:=m) (l:=l) kk;have hg5:(jf kR.name (iY m l kk)).length≤kk:=by rw[iC];exact hg4
   have hb4:=vJ (m:=m) (l:=l) kk;have hq0:=fun h=>D5 (l:=l) hpx h
   have hq1:=fun h=>FQ (l:=l) hpx h
   have hq2:=fun h=>AQ (l:=l) hpx h
   have hq3:=fun h=>Cj (l:=l) hpx h
   have hci:=MI (m:=m) (l:=l) kk;have hone:=HSO.out kk hlt wo hf.below;generalize dJ m l kk=r at hq0 hq1 hq2 hq3 hci hone;obtain⟨S,C⟩:=r;dsimp only at hq0 hq1 hq2 hq3 hci hone;have hrow2:∀g,(Value.slice A2 n2 c2).ownBlock=some g→g<wo.heap.size:=fun g hg=>(hf.bad.row hg).2
   obtain⟨HN0,Td,Tf,OI,Xu,HG5,HB4,XD,acF,HF0,acK⟩:=aH hn0 hq0 hq1 hq2 hq3 hg5 hb4 hci hone hf hrow2;clear hn0 hq0 hq1 hq2 hq3 hg5 hb4 hci hone hf hrow2;clear hpr hcell hcs jc hat hR hX hv0 hpx hF hg4;go_wp2_with fail;refine acF.out.mono ?_;rintro e W5 ⟨qs,rfl,hb5,hs5⟩;obtain⟨A7,c7,rfl,hsn,hsr,hsp⟩:=fB.form hs5;have hf5:=HF0.out.later hb5;have hd0:=(hb5.cell (p:=⟨bp,lF+kk*12,none⟩) hqp).trans hc0;have hq5:bp<W5.heap.size:=Nat.lt_of_lt_of_le hqp hb5.size;have hB4:=HF0.out.hi;clear m0 m1 m2 hc0 hqp acF;obtain⟨yS,F5,HHI,kG⟩:=au hf5 hs5 hB4 hb5;clear hf5 hs5 hB4 hb5;clear hsn hsr hsp;go_upto_region 8 with fail
   have hBs:=Box.made W5 62 #[.string S.name,.slice A7 S.params.length c7,.string S.result];have hbs:Below W5.heap.size W5 (W5.alloc (.cells #[.string S.name,.slice A7 S.params.length c7,.string S.result] 62)):=by go_grown
   have hzs:(W5.alloc (.cells #[.string S.name,.slice A7 S.params.length c7,.string S.result] 62)).heap.size=W5.heap.size+1:=by simp
   generalize W5.alloc (.cells #[.string S.name,.slice A7 S.params.length c7,.string S.result] 62)=W6 at hBs hbs hzs⊢;have Ae:=yS.out.later hbs;have hs6:fB W6 (fresh wo.heap.size W5.heap.size) _ S:=fB.stays.later F5.out hbs (fun k hk=>hk.2);have ET:=hbs.size;have hd1:=(hbs.cell (p:=⟨bp,lF+kk*12,none⟩) hq5).trans hd0;clear hd0 hq5
   by_cases hC:C=0
   ·subst hC;have hq2:=OI.out rfl;have hq3:=Xu.out rfl;have hGH:∀k,G k∨fresh wo.heap.size W5.heap.size k→W2.heap.size≤k∧k<W6.heap.size∧some k≠(Value.slice A2 n2 c2).ownBlock:=fun k hk=>by
     rcases hk with hk|hk
     ·exact⟨Ae.low k hk,(Ae.own.foot hk).1,Ae.apG k hk⟩
     ·exact⟨by have:=hk.1;have:=HHI.out;omega,by have:=hk.2;omega,fun e=>by have:=acK.out k e.symm;have:=hk.1;omega⟩
    obtain⟨lo,hlo⟩:∃z,jf kR.name (iY m l kk)=z:=⟨_,rfl⟩;rw[hlo]at HG5 hn Ae;obtain⟨bd,hbd⟩:∃z,je m l kk=z:=⟨_,rfl⟩;rw[hbd]at HB4 hn2 Ae;have hn':n=lo.length:=hn.out;subst hn';have hns:W5.heap.size<W6.heap.size:=hBs.lt;obtain⟨NG,NH,HF6,Zu,XI,HLO,XB,Qz⟩:=aC hq2 hq3 Ae hs6 hGH hlo hbd hBs;clear hq2 hq3 Ae hs6 hGH hlo hbd hBs;clear Td Tf OI Xu hbs hzs yS F5 ET hd1 HF0;go_wp2_with fail;go_loopg [11,12,13] lo.length (fun gg s11 s12 s13 wr=>∃(jj nb cb:Nat) (B:Option Addr) (P:List kR) (d:Bool),jj≤lo.length∧lo.length-jj≤gg∧s13=.int .i64 jj∧s11=.slice B nb cb∧s12=.bool d∧Aside (nb=P.length)∧Aside (oO kR.name S lo jj=(P,d))∧
     Aside (aZ fB 3 62 W6.heap.size wr (fun k=>G k∨fresh wo.heap.size W5.heap.size k) (.slice B nb cb) P)∧Aside (Below W6.heap.size W6 wr))
    case atStart=>exact⟨0,0,0,none,[],false,Nat.zero_le _,by omega,rfl,rfl,rfl,aside rfl,aside Lp,aside (aZ.wider fB.stays aZ.nil_ (fun k hk=>hk.elim) (fun k hk=>⟨(XI.out k hk).2.1,fun e=>by cases e⟩)),aside (Below.refl _ _)⟩
    case round=>
     obtain⟨jj,nb,cb,B,P,d,hjj,hg2,rfl,rfl,rfl,hnb,hin,hO,BW⟩:=hrel;obtain⟨wi,rfl⟩:∃W,W=wr:=⟨_,rfl⟩;have hpl:P.length≤jj+1:=by have h:=Iw (f:=kR.name) (y:=S) (l:=lo) jj;rw[hin.out]at h;exact h
     have hnb':nb=P.length:=hnb.out;subst hnb';have hg5:=HG5.out;have hpl':P.length≤25:=by omega
     have hfi:=HF6.out.later BW.out;have y1:=hfi.bo.at_ 1 _ rfl
     by_cases adM:jj<lo.length
     ·have adN:(jj:Int)<(lo.length:Int):=by omega
      obtain⟨bo,off,cs,hA,ni,hob,hcs,hxr,hcell⟩:=HF6.out.own.at_ adM;have hx:=aK adM;generalize lo[jj]=x at hx hxr;obtain⟨A11,c11,rfl,_⟩:=fB.form hxr;have hc0:=(BW.out.cell (p:=⟨bo,off+jj*3+0,none⟩) ni).trans (hcell 0 _ rfl);simp only[Nat.add_zero]at hc0;have hc1:=(BW.out.cell (p:=⟨bo,off+jj*3+1,none⟩) ni).trans (hcell 1 _ rfl);have hc2:=(BW.out.cell (p:=⟨bo,off+jj*3+2,none⟩) ni).trans (hcell 2 _ rfl);have hAc:lo.length≤c∧c≤9223372036854775807:=by
       obtain⟨A',c',e,h1,h2⟩:=HF6.out.own.form;injection e with e1 e2 e3
       subst e3;exact⟨h1,by unfold maxLen at h2;omega⟩
      subst hA;have hbi:bo<wi.heap.size:=Nat.lt_of_lt_of_le ni BW.out.size;have hs:=Dp (f:=kR.name) (y:=S) hx;rw[hin.out]at hs;have hBi:=Qz.out.later BW.out hns;have b0:=hBi.at_ 0 _ rfl;obtain⟨z,hz⟩:∃z,(!d&&nT S.name x.name)=z:=⟨_,rfl⟩;rw[Yz (f:=kR.name) hz]at hs;have akI:w.heap.size+1+1<wi.heap.size:=hfi.bo.lt;obtain⟨HS,HX,tN,HZ,HBi,HFI⟩:=aA hs hx hxr hz hBi hfi;clear hs hx hxr hz hBi hfi;clear hcell hcs;go_upto_region 15 with fail
      go_cut [68] (fun s68 wc=>s68=.bool z∧Aside (Below wi.heap.size wi wc))
      case first=>
       cases d with
       |true=>
        have hz2:false=z:=HZ.out;subst hz2;go_wp2_with fail;go_quiet(fail);go_wp2_with fail;go_meet;exact⟨rfl,aside (below_drewN (Below.refl _ _) _)⟩
       |false=>
        have hz2:nT S.name x.name=z:=by have:=HZ.out;simpa using this
        have hz3:=(Yi x.name S.name).trans hz2;clear hz2;cases hq:(!Op.bytesLess x.name.toList S.name.toList&& !(x.name.toList==S.name.toList))with
        |true=>
         rw[hq]at hz3;subst hz3;go_wp2_with fail;go_quiet(fail);go_wp2_with fail;go_meet;exact⟨rfl,aside (below_drewN (Below.refl _ _) _)⟩
        |false=>
         rw[hq]at hz3;subst hz3;go_wp2_with fail;go_quiet(fail);go_wp2_with fail;go_meet;exact⟨rfl,aside (below_drewN (Below.refl _ _) _)⟩
      case rest=>
      obtain⟨rfl,hbq⟩:=hcut;obtain⟨Wq,rfl⟩:∃W,W=wc:=⟨_,rfl⟩;have hc0':=(hbq.out.cell (p:=⟨bo,off+jj*3,none⟩) hbi).trans hc0;have hc1':=(hbq.out.cell (p:=⟨bo,off+jj*3+1,none⟩) hbi).trans hc1;have hc2':=(hbq.out.cell (p:=⟨bo,off+jj*3+2,none⟩) hbi).trans hc2;have y1':=(hbq.out.cell (p:=⟨w.heap.size+1+1,1,none⟩) akI).trans y1;have Yl:=HBi.out.later hbq.out HBi.out.lt;have hOq:=hO.out.below fB.stays hbq.out;have BWq:=BW.out.trans (hbq.out.mono BW.out.size);have hxq:fB Wq G _ x:=fB.stays.later tN.out BWq (fun k hk=>(XI.out k (.inl hk)).2.1);have hsq:fB Wq (fresh wo.heap.size W5.heap.size) _ S:=fB.stays.later Zu.out BWq (fun k hk=>(XI.out k (.inr hk)).2.1);have ahX:bo<Wq.heap.size:=Nat.lt_of_lt_of_le hbi hbq.out.size;have aod:w.heap.size+1+1<Wq.heap.size:=Nat.lt_of_lt_of_le akI hbq.out.size;have hrow:∀k,k<W6.heap.size→some k≠(Value.slice B P.length cb).ownBlock:=fun k hk e=>by have:=(hOq.row e.symm).1;omega
      have b1:=Yl.at_ 1 _ rfl;have b2:=Yl.at_ 2 _ rfl;have b0':=Yl.at_ 0 _ rfl;clear hc0 hc1 hc2 y1 b0 HBi;obtain⟨HBQ,HOQ,Qy,HXQ,HSQ,zF⟩:=aA Yl hOq BWq hxq hsq hrow;clear Yl hOq BWq hxq hsq hrow;clear hbq hO BW tN HFI;cases z with
      |false=>
       have hs:=HS.out;rw[if_neg (by decide)]at hs;have HS2:=ah hs;clear hs;clear HS;go_wp2_with(at_builtin;go_must((refine bH fB.stays (.agg #[.string ⟨#[]⟩,.slice none 0 0,.string ⟨#[]⟩]) [.string x.name,.slice A11 x.params.length c11,.string x.result] x rfl rfl underlying40 (bytes:=56) (by kernel_rfl) HOQ.out rfl rfl (by decide) rfl rfl HXQ.out BD (fun k hk=>⟨Nat.lt_of_lt_of_le (XI.out k (.inl hk)).2.1 Qy.out.size,zF.out k (XI.out k (.inl hk)).2.1⟩) (by unfold maxLen;omega) (by omega) (by exact Qy.out.size) ?_);(intro A8 c8 W8 tX hgr hloc;have hb8:=Qy.out.trans (hgr.below (B:=W6.heap.size) (aJ _) Qy.out.size);have hf8:=fun k hk=>tX.foot (k:=k) hk;have vU:=Lib.hid (aZ.wider fB.stays tX (F':=fun k=>G k∨fresh wo.heap.size W5.heap.size k) (fun k hk=>hk.elim id .inl) (fun k hk=>hf8 k (.inl hk)));have Gg:=Lib.hid hb8;clear tX hgr hb8 hloc hf8)));go_roundg (lo.length-(jj+1))
       case measure=>omega
       case rel=>
        exact⟨jj+1,P.length+1,c8,A8,P++ [x],d,by omega,by omega,by go_num,rfl,rfl,aside (by simp),aside HS2.out,aside vU.out,aside Gg.out⟩
      |true=>
       have hs:=HS.out;rw[if_pos rfl]at hs;have HS2:=ah hs;clear hs;clear HS;go_upto_region 18 with (at_builtin;go_must((refine bH fB.stays (.agg #[.string ⟨#[]⟩,.slice none 0 0,.string ⟨#[]⟩]) [.string S.name,.slice A7 S.params.length c7,.string S.result] S rfl rfl underlying40 (bytes:=56) (by kernel_rfl) HOQ.out rfl rfl (by decide) rfl rfl HSQ.out BD (fun k hk=>⟨Nat.lt_of_lt_of_le (XI.out k (.inr hk)).2.1 Qy.out.size,zF.out k (XI.out k (.inr hk)).2.1⟩) (by unfold maxLen;omega) (by omega) (by exact Qy.out.size) ?_);(intro A10 c10 W7 xY hgr hloc;have hb7:=Qy.out.trans (hgr.below (B:=W6.heap.size) (aJ _) Qy.out.size);have NW:=fun k hk=>xY.foot (k:=k) hk;have abb:=fun k (hk:k<Wq.heap.size) (hk2:k<W6.heap.size)=>hgr.block k hk (zF.out k hk2);have aqN:=(World.cell?_of_block (a:=⟨bo,off+jj*3,none⟩) (abb bo ahX ni)).trans hc0';have aqO:=(World.cell?_of_block (a:=⟨bo,off+jj*3+1,none⟩) (abb bo ahX ni)).trans hc1';have aqP:=(World.cell?_of_block (a:=⟨bo,off+jj*3+2,none⟩) (abb bo ahX ni)).trans hc2';have y1q:=(World.cell?_of_block (a:=⟨w.heap.size+1+1,1,none⟩) (abb _ aod HF6.out.bo.lt)).trans y1';have BQ:=Lib.hid (aZ.wider fB.stays xY (F':=fun k=>G k∨fresh wo.heap.size W5.heap.size k) (fun k hk=>hk.elim id .inr) (fun k hk=>NW k (.inl hk)));have anA:=Lib.hid (show fB W7 G _ x from fB.stays _ _ _ _ _ _ HXQ.out (fun _ h=>h) (dY fun k hk=>abb k (Nat.lt_of_lt_of_le (XI.out k (.inl hk)).2.1 Qy.out.size) (XI.out k (.inl hk)).2.1));have zD:=Lib.hid hb7;clear xY hgr hb7 hloc NW abb hc0' hc1' hc2' y1' b0' b1 b2)))
       have adQ:(P++ [S]).length=P.length+1:=by simp
       have agD:∀k,k<W6.heap.size→some k≠(Value.slice A10 (P.length+1) c10).ownBlock:=fun k hk e=>by have:=(BQ.out.row e.symm).1;omega
       have ajG:=ah agD;clear agD;go_wp2_with(at_builtin;go_must((refine bH fB.stays (.agg #[.string ⟨#[]⟩,.slice none 0 0,.string ⟨#[]⟩]) [.string x.name,.slice A11 x.params.length c11,.string x.result] x rfl rfl underlying40 (bytes:=56) (by kernel_rfl) BQ.out rfl rfl (by decide) rfl rfl anA.out BD (fun k hk=>⟨Nat.lt_of_lt_of_le (XI.out k (.inl hk)).2.1 zD.out.size,ajG.out k (XI.out k (.inl hk)).2.1⟩) (by unfold maxLen;omega) (by omega) (by exact zD.out.size) ?_);(intro A8 c8 W8 tX hgr hloc;have hb8:=zD.out.trans (hgr.below (B:=W6.heap.size) (aJ _) zD.out.size);have hf8:=fun k hk=>tX.foot (k:=k) hk;have vU:=Lib.hid (aZ.wider fB.stays tX (F':=fun k=>G k∨fresh wo.heap.size W5.heap.size k) (fun k hk=>hk.elim id .inl) (fun k hk=>hf8 k (.inl hk)));have Gg:=Lib.hid hb8;clear tX hgr hb8 hloc hf8)));go_roundg (lo.length-(jj+1))
       case measure=>omega
       case rel=>
        exact⟨jj+1,P.length+1+1,c8,A8,P++ [S,x],true,by omega,by omega,by go_num,rfl,rfl,aside (by simp),aside HS2.out,aside (by have h:=vU.out;rw[adQ]at h;simpa using h),aside Gg.out⟩
     ·have adN:¬(jj:Int)<(lo.length:Int):=by omega
      obtain rfl:jj=lo.length:=by omega
      have ak2:∀(s':Value) (W':World) (sl':List kR),Below W6.heap.size W6 W'→aZ fB 3 62 W6.heap.size W' (fun k=>G k∨fresh wo.heap.size W5.heap.size k) s' sl'→Facing w (W'.setCell ⟨w.heap.size+1+1,1,none⟩ s') W2.heap.size #[.slice U1 m.uses.length u1,.slice T1 m.types.length e1,.slice (some ⟨bp,lF,none⟩) m.funcs.length e2] E (.slice A5 E.length c5) (fun k=>G k∨fresh wo.heap.size W5.heap.size k) s' (.slice A2 n2 c2) sl' bd:=fun s' W' sl' h1 h2=>HF6.out.replace h1 h2 XI.out
      have g1:=hfi.bo.free 1;have HNS:=ah ak2;clear ak2;clear hfi;cases d with
      |true=>
       have he:=Aj (f:=kR.name) (y:=S) (l:=lo) (by rw[hin.out]);rw[hin.out]at he;have hnew:jf kR.name (iY m l (kk+1))=P:=by rw[NG.out,vM,HLO.out];exact he.symm
       have hbn:je m l (kk+1)=bd:=by rw[NH.out,XB.out]
       clear he;have Bh:=HNS.out _ _ _ BW.out hO.out;obtain⟨JL,HBN,TF⟩:=ak hnew hbn Bh;clear hnew hbn Bh;go_wp2_with fail;go_roundg (m.funcs.length-(kk+1))
       case measure=>omega
       case rel=>
        exact⟨kk+1,P.length,cb,n2,c2,B,A2,_,by omega,by omega,by go_num,rfl,aside (by rw[JL.out]),aside (by rw[HBN.out];exact hn2.out),aside (by rw[JL.out,HBN.out];exact TF.out)⟩
      |false=>
       have he:=Ce (f:=kR.name) (y:=S) (l:=lo) (by rw[hin.out]);rw[hin.out]at he;have hnew:jf kR.name (iY m l (kk+1))=P++ [S]:=by rw[NG.out,vM,HLO.out];exact he.symm
       have hbn:je m l (kk+1)=bd:=by rw[NH.out,XB.out]
       clear he;have hBi:=Qz.out.later BW.out hns;have b0:=hBi.at_ 0 _ rfl;have b1:=hBi.at_ 1 _ rfl;have b2:=hBi.at_ 2 _ rfl;have hsq:fB wi (fresh wo.heap.size W5.heap.size) _ S:=fB.stays.later Zu.out BW.out (fun k hk=>(XI.out k (.inr hk)).2.1);have hrow:∀k,k<W6.heap.size→some k≠(Value.slice B P.length cb).ownBlock:=fun k hk e=>by have:=(hO.out.row e.symm).1;omega
       have NZ:w.heap.size+1+1<W6.heap.size:=HF6.out.bo.lt;have ak3:Box wi (w.heap.size+1+1) 42 #[.slice A5 E.length c5,.slice A lo.length c]:=HF6.out.bo.later BW.out NZ;obtain⟨JL,HBN,HSQ,zF,HOB⟩:=ay hnew hbn hsq hrow ak3;clear hnew hbn hsq hrow ak3;clear hBi;go_wp2_with(at_builtin;go_must((refine bH fB.stays (.agg #[.string ⟨#[]⟩,.slice none 0 0,.string ⟨#[]⟩]) [.string S.name,.slice A7 S.params.length c7,.string S.result] S rfl rfl underlying40 (bytes:=56) (by kernel_rfl) hO.out rfl rfl (by decide) rfl rfl HSQ.out BD (fun k hk=>⟨Nat.lt_of_lt_of_le (XI.out k (.inr hk)).2.1 BW.out.size,zF.out k (XI.out k (.inr hk)).2.1⟩) (by unfold maxLen;omega) (by omega) (by exact BW.out.size) ?_);(intro A8 c8 W8 tX hgr hloc;have hb8:=BW.out.trans (hgr.below (B:=W6.heap.size) (aJ _) BW.out.size);have hf8:=fun k hk=>tX.foot (k:=k) hk;have aic:=hgr.box HOB.out NZ;clear y1 g1;have y1:=aic.at_ 1 _ rfl;have g1:=aic.free 1;have Bh:=HNS.out _ _ _ hb8 (aZ.wider fB.stays tX (F':=fun k=>G k∨fresh wo.heap.size W5.heap.size k) (fun k hk=>hk.elim id .inr) (fun k hk=>hf8 k (.inl hk)));have TF:=Lib.hid Bh;clear tX hgr hb8 hloc hf8 aic Bh)));go_roundg (m.funcs.length-(kk+1))
       case measure=>omega
       case rel=>
        exact⟨kk+1,P.length+1,c8,n2,c2,A8,A2,_,by omega,by omega,by go_num,rfl,aside (by rw[JL.out];simp),aside (by rw[HBN.out];exact hn2.out),aside (by rw[JL.out,HBN.out];exact TF.out)⟩
   ·have hCz:(C==0)=false:=by simp[hC]
    have hq0:=Td.out hC;have hq1:=Tf.out hC;have m2:=Ae.bm.at_ 2 _ rfl;obtain⟨BI,BJ,HF6⟩:=ak hq0 hq1 Ae;clear hq0 hq1 Ae;clear Td Tf OI Xu hBs hbs hzs yS F5 ET hs6;go_wp2_with(at_builtin;go_must((refine bH bn.stays (.agg #[.string ⟨#[]⟩,.int .i64 0]) [.string p.name,.int .i64 C] ⟨p.name,C⟩ rfl rfl underlying43 (bytes:=24) (by kernel_rfl) HF6.out.bad rfl rfl (by decide) rfl rfl (show bn W6 none_ _ _ from⟨rfl,HN0.out,XD.out⟩) (lC (d:=⟨p.name,C⟩)) (fun k hk=>hk.elim) (by unfold maxLen;have:=HB4.out;omega) (by have:=HB4.out;omega) (by exact HF6.out.hi) ?_);(intro A10 c10 W7 xY hgr hloc;have NW:=HF6.out.aah xY hgr hloc;have Zq:=Lib.hid NW;clear xY hgr hloc NW)));go_roundg (m.funcs.length-(kk+1))
    case measure=>omega
    case rel=>
     exact⟨kk+1,n,c,(je m l kk).length+1,c10,A,A10,_,by omega,by omega,by go_num,rfl,aside (by rw[BI.out];exact hn.out),aside (by rw[BJ.out];simp),aside (by rw[BI.out,BJ.out];exact Zq.out)⟩
  ·have hltz:¬(kk:Int)<(m.funcs.length:Int):=by omega
   obtain rfl:kk=m.funcs.length:=by omega
   have hg4:=xB (m:=m) (l:=l) m.funcs.length;have hb4:=vJ (m:=m) (l:=l) m.funcs.length;have hdn:=hf.done (by rw[iC];omega) (by omega);have y0:=hf.bo.at_ 0 _ rfl;have y1:=hf.bo.at_ 1 _ rfl;have r0:=hf.br.at_ 0 _ rfl;have r1:=hf.br.at_ 1 _ rfl;have g0:=hf.br.free 0;have g1:=hf.br.free 1;have HDN:=ah hdn;clear hdn;clear hf hF;go_wp2_with fail;exact bodyPost_ret (v:=.tuple #[.agg #[.slice A5 E.length c5,.slice A n c],.slice A2 n2 c2]) (by simp[results,results49,go_sem,r0,r1]) rfl ⟨_,_,rfl,HDN.out.1,HDN.out.2.1,HDN.out.2.2⟩
end Go.Proofs.YtjaladhdnbhliaaGreatDoor
