/- Parts. -/
import Derived.Test.YtjaladhdnbhliaaGreatDoorQAliasUse
import Derived.Test.YtjaladhdnbhliaaGreatDoorQFaceGood
set_option maxHeartbeats 16000000
namespace Go.Proofs.YtjaladhdnbhliaaGreatDoor
open Go.Proofs.Tryz
open Go.RowKit Go.Shelf
theorem uO{d:Known}:∀u∈[Value.string d.name,.string d.dV],u.oneCell'=true:=by
 intro u hu;simp only[List.mem_cons,List.not_mem_nil,or_false]at hu;rcases hu with rfl|rfl<;>rfl
set_option maxRecDepth 100000 in
theorem I8(m:Module)(l:List Import)(hm0:dD m=0)(hl0:bG l=0)(ds:List Value)(lv:Value)(w:World)
  (hm:aN w (old w.heap.size) ds m) (hl:SliceOf aU 4 72 w (old w.heap.size) lv l):
  Calls prog 51 #[.agg ds.toArray,lv] w fun e w'=>∃v1 v2:Value,e=.returned (.tuple #[v1,v2])∧Below w.heap.size w w'∧SliceOf aW 2 32 w' (fresh w.heap.size w'.heap.size) v1 (typesOf m l)∧SliceOf bn 2 24 w' (fresh w.heap.size w'.heap.size) v2 (pU m l):=by
 obtain⟨U1,u1,T1,e1,T2,e2,rfl,_,hT,_⟩:=aN.form hm;obtain⟨L1,l1,rfl,_⟩:=hl.form;have ng:=gJ hm0;have hsv:=fun(U:World) (p:Ty) (cs:List Value) (hU:Below w.heap.size w U) (hp:dn 10 p=0) (hr:iD U (old U.heap.size) cs p)=>
  FU m l hm0 hl0 10 ⟨#[]⟩ p [.slice U1 m.uses.length u1,.slice T1 m.types.length e1,.slice T2 m.funcs.length e2] cs (.slice L1 l.length l1) U hp (aJ _) (dI aN.stays hm hU) (bK aU.stays hl hU) hr
 have hta:=fun(U:World) (t:ByteArray) (hU:Below w.heap.size w U)=>
  Np m t [.slice U1 m.uses.length u1,.slice T1 m.types.length e1,.slice T2 m.funcs.length e2] (old U.heap.size) U eF (dI aN.stays hm hU)
 have hnf:∀x∈m.types,aX x.name=true:=fun x hx=>(lI (iZ (mod_zero hm0).1 x hx)).1
 have hst:=nH hl0;have hTc:=hT.caps;have ail:m.types.length≤24:=by omega
 obtain⟨HSV,HTA,HNF,HST,HT,rG⟩:=aA hsv hta hnf hst hT ng;clear hsv hta hnf hst hT ng;clear hm hl hm0 hl0;go_enter func51,ntmps51;go_wp2_with fail;have hBb:=Box.made w 27 #[.slice U1 m.uses.length u1,.slice T1 m.types.length e1,.slice T2 m.funcs.length e2];have hbb:Below w.heap.size w (w.alloc (.cells #[.slice U1 m.uses.length u1,.slice T1 m.types.length e1,.slice T2 m.funcs.length e2] 27)):=by go_grown
 have hzb:(w.alloc (.cells #[.slice U1 m.uses.length u1,.slice T1 m.types.length e1,.slice T2 m.funcs.length e2] 27)).heap.size=w.heap.size+1:=by simp
 generalize w.alloc (.cells #[.slice U1 m.uses.length u1,.slice T1 m.types.length e1,.slice T2 m.funcs.length e2] 27)=W1 at hBb hbb hzb⊢;obtain⟨HB,Hb,Hz⟩:=ak hBb hbb hzb;clear hBb hbb hzb;go_loopg [6,7,8,9,10,11,12,13,14] m.types.length (fun gg s6 s7 s8 s9 s10 s11 s12 s13 s14 wr=>∃(kk n c n2 c2:Nat) (A A2:Option Addr),kk≤m.types.length∧m.types.length-kk≤gg∧s8=.int .i64 kk∧s6=.slice A n c∧s7=.slice A2 n2 c2∧Aside (n=(jf Known.name (jA m l kk)).length)∧Aside (n2=(o7 m l kk).length)∧
  Aside (aZ aW 2 100 W1.heap.size wr none_ (.slice A n c) (jf Known.name (jA m l kk)))∧Aside (aZ bn 2 53 W1.heap.size wr none_ (.slice A2 n2 c2) (o7 m l kk))∧Aside (Apart (.slice A n c) (.slice A2 n2 c2))∧Aside (Below W1.heap.size W1 wr))
 case atStart=>exact⟨0,0,0,0,0,none,none,Nat.zero_le _,by omega,rfl,rfl,rfl,aside rfl,aside rfl,aside aZ.nil_,aside aZ.nil_,aside (fun g hg=>by cases hg),aside (Below.refl _ _)⟩
 case round=>
  obtain⟨kk,n,c,n2,c2,A,A2,hkk,hg,rfl,rfl,rfl,hn,hn2,hO,hO2,hap,BW⟩:=hrel;obtain⟨wo,rfl⟩:∃W,W=wr:=⟨_,rfl⟩;have hB1:=HB.out.later BW.out HB.out.lt;have hbw:=Hb.out.trans (BW.out.mono Hb.out.size)
  by_cases hlt:kk<m.types.length
  ·have hltz:(kk:Int)<(m.types.length:Int):=by omega
   have hat:=bK aQ.stays HT.out hbw;obtain⟨bp,lF,cs,hP1,jc,hcs,hpr,hcell⟩:=hat.at_ (k:=kk) hlt;have hpx:=aK hlt;have hnm:=HNF.out _ (List.getElem_mem hlt);generalize m.types[kk]=p at hpx hpr hnm;obtain⟨d1,d2,d3,d4,rfl,hpn,hpt⟩:=aQ.form hpr;have hc0:=hcell 0 _ rfl;simp only[Nat.add_zero]at hc0;subst hP1;have hg4:=wZ (m:=m) (l:=l) kk;have hg5:(jf Known.name (jA m l kk)).length≤kk:=by rw[iC];exact hg4
   have hb4:=zL (m:=m) (l:=l) kk;have hp0:=fun h=>qQ (l:=l) hpx h
   have hp1:=fun h=>yN (l:=l) hpx h
   have hq0:=fun h=>Df (l:=l) hpx h
   have hq1:=fun h=>OM (l:=l) hpx h
   have hq2:=fun h=>zY (l:=l) hpx h
   have hq3:=fun h=>J8 (l:=l) hpx h
   have hfl:=aff hpx;obtain⟨za,hza⟩:∃z,(m.types.take kk).any (bU p.name)=z:=⟨_,rfl⟩;rw[hza]at hp0 hp1 hfl;have hnt:=Aw hnm;have htr:iD wo (old wo.heap.size) [.int .i64 4,.string ⟨#[]⟩,.string p.name,.slice none 0 0] (mF p.name):=⟨1,_,rfl,(show I64 4 from⟨by decide,by decide⟩),Nat.zero_le _,hpn,SliceOf.nil_⟩;have hsv:=HSV.out wo (mF p.name) _ hbw hnt htr;have hsz:=CG (m:=m) HST.out p.name;have hci:=tJ (m:=m) (l:=l) ⟨#[]⟩ (mF p.name);generalize dA m l ⟨#[]⟩ (mF p.name)=r at hsv hsz hci hp1 hq2;obtain⟨S,C⟩:=r;dsimp only at hsv hsz hci hp1 hq2;have ZT:okS S:=by unfold okS;omega
   have y0:=hB1.at_ 0 _ rfl;have y1:=hB1.at_ 1 _ rfl;have y2:=hB1.at_ 2 _ rfl;obtain⟨Jb,zy,HPN,XP,Xt,Td,Tf,OI,Xu,HFL,HG4,HG5⟩:=aI hB1 hbw hpn hp0 hp1 hq0 hq1 hq2 hq3 hfl hg4 hg5;obtain⟨HB4,zG,HOS,XD⟩:=au hb4 hsv ZT hci;clear hB1 hbw hpn hp0 hp1 hq0 hq1 hq2 hq3 hfl hg4 hg5 hb4 hsv ZT hci;clear hpr hcell hcs jc hpt hat hnm hnt htr hsz hpx;go_wp2_with fail;refine zG.out.mono ?_;rintro e W6 ⟨rfl,hb6⟩;have hB1:=Jb.out.later hb6 Jb.out.lt;have Dl:=zy.out.trans (hb6.mono zy.out.size);have hta:=HTA.out W6 p.name Dl;have hb16:=BW.out.trans (hb6.mono BW.out.size);have mV:=hO.out.below aW.stays hb6;have UA:=hO2.out.below bn.stays hb6;clear y0 y1 y2 hc0 zG hb6;have y0:=hB1.at_ 0 _ rfl;have y1:=hB1.at_ 1 _ rfl;have y2:=hB1.at_ 2 _ rfl;generalize fidx (bU p.name) m.types=fi at hta HFL;obtain⟨HC6,Ja,kH,uq,aaF,ajT⟩:=aA hB1 Dl hb16 mV UA hta;clear hB1 Dl hb16 mV UA hta;clear Jb zy BW hO hO2;go_wp2_with fail;refine ajT.out.mono ?_;rintro e W7 ⟨rfl,hb7⟩;have KU:=Ja.out.trans (hb7.mono Ja.out.size);have akF:=kH.out.trans (hb7.mono kH.out.size);have xY:=uq.out.below aW.stays hb7;have ako:=aaF.out.below bn.stays hb7;clear y0 y1 y2 ajT hb7;have hfl:=HFL.out;obtain⟨apH,zD,BQ,aeZ⟩:=au KU akF xY ako;clear KU akF xY ako;clear HC6 Ja kH uq aaF HFL;cases za with
   |true=>
    have hcode:=XP.out rfl;have hq0:=Td.out (by rw[hcode];decide);have hq1:=Tf.out (by rw[hcode];decide);rw[hcode]at hq1;obtain⟨BI,BJ⟩:=aj hq0 hq1;clear hq0 hq1;clear XP Xt Td Tf OI Xu hcode;go_wp2_with(at_builtin;go_must((refine bH bn.stays (.agg #[.string ⟨#[]⟩,.int .i64 0]) [.string p.name,.int .i64 4] ⟨p.name,4⟩ rfl rfl underlying43 (bytes:=24) (by kernel_rfl) aeZ.out rfl rfl (by decide) rfl rfl (show bn W7 none_ _ _ from⟨rfl,HPN.out,(show I64 4 from⟨by decide,by decide⟩)⟩) (lC (d:=⟨p.name,4⟩)) (fun k hk=>hk.elim) (by unfold maxLen;have:=HB4.out;omega) (by have:=HB4.out;omega) (by have:=zD.out.size;omega) ?_);(intro A8 c8 W8 tX hgr hloc;have hb8:=zD.out.trans (hgr.below (B:=W1.heap.size) (aJ _) zD.out.size);have qA:=BQ.out.grew aW.stays hgr hap.out;have adE:=hap.out.symm.push hloc (fun g hg=>(BQ.out.row hg).2);have vU:=Lib.hid tX;have zn:=Lib.hid qA;have Gg:=Lib.hid hb8;have HAP:=Lib.hid adE;clear tX hgr hb8 qA adE hloc)));go_roundg (m.types.length-(kk+1))
    case measure=>omega
    case rel=>
     exact⟨kk+1,n,c,(o7 m l kk).length+1,c8,A,A8,by omega,by omega,by go_num,rfl,rfl,aside (by rw[BI.out];exact hn.out),aside (by rw[BJ.out];simp),aside (by rw[BI.out];exact zn.out),aside (by rw[BJ.out];exact aZ.wider bn.stays vU.out (fun k hk=>hk.elim id id) (fun k hk=>hk.elim)),aside HAP.out.symm,aside Gg.out⟩
   |false=>
    have hcode:=Xt.out rfl
    by_cases hC:C=0
    ·subst hC;have hq2:=OI.out hcode;have hq3:=Xu.out hcode;obtain⟨NG,NH⟩:=aj hq2 hq3;clear hq2 hq3;clear XP Xt Td Tf OI Xu hcode;obtain⟨lo,hlo⟩:∃z,jf Known.name (jA m l kk)=z:=⟨_,rfl⟩;rw[hlo]at BQ HG5 hn;obtain⟨bd,hbd⟩:∃z,o7 m l kk=z:=⟨_,rfl⟩;rw[hbd]at aeZ HB4 hn2;have hn':n=lo.length:=hn.out;subst hn';obtain⟨HLO,XB⟩:=aj hlo hbd;clear hlo hbd;go_wp2_with fail;go_loopg [12,13,14] lo.length (fun gg s12 s13 s14 wr=>∃(jj nb cb:Nat) (B:Option Addr) (P:List Known) (d:Bool),jj≤lo.length∧lo.length-jj≤gg∧s14=.int .i64 jj∧s12=.slice B nb cb∧s13=.bool d∧Aside (nb=P.length)∧Aside (oO Known.name ⟨p.name,S⟩ lo jj=(P,d))∧
      Aside (aZ aW 2 100 W1.heap.size wr none_ (.slice B nb cb) P)∧Aside (aZ aW 2 100 W1.heap.size wr none_ (.slice A lo.length c) lo)∧Aside (aZ bn 2 53 W1.heap.size wr none_ (.slice A2 n2 c2) bd)∧Aside (Apart (.slice B nb cb) (.slice A lo.length c))∧Aside (Apart (.slice B nb cb) (.slice A2 n2 c2))∧Aside (Below W1.heap.size W1 wr))
     case atStart=>exact⟨0,0,0,none,[],false,Nat.zero_le _,by omega,rfl,rfl,rfl,aside rfl,aside Lp,aside aZ.nil_,aside BQ.out,aside aeZ.out,aside (fun g hg=>by cases hg),aside (fun g hg=>by cases hg),aside zD.out⟩
     case round=>
      obtain⟨jj,nb,cb,B,P,d,hjj,hg2,rfl,rfl,rfl,hnb,hin,hO,hOo,hOd,ha1,ha2,BW⟩:=hrel;have hpl:P.length≤jj+1:=by have h:=Iw (f:=Known.name) (y:=⟨p.name,S⟩) (l:=lo) jj;rw[hin.out]at h;exact h
      have hnb':nb=P.length:=hnb.out;subst hnb';have hg5:=HG5.out;have hpl':P.length≤25:=by omega
      by_cases adM:jj<lo.length
      ·have adN:(jj:Int)<(lo.length:Int):=by omega
       obtain⟨bo,off,cs,hA,ni,hob,hcs,⟨rfl,hxn,hxi⟩,hcell⟩:=hOo.out.at_ adM;have hx:=aK adM;generalize lo[jj]=x at hx hxn hxi hcell hcs;have hc0:=hcell 0 _ rfl;have hc1:=hcell 1 _ rfl;simp only[Nat.add_zero]at hc0;subst hA;have hs:=Dp (f:=Known.name) (y:=⟨p.name,S⟩) hx;rw[hin.out]at hs;have hne:some bo≠(Value.slice B P.length cb).ownBlock:=fun e=>ha1.out.symm bo hob e.symm
       obtain⟨HS,HX,HXN,HXI,BH⟩:=ay hs hx hxn hxi hne;clear hs hx hxn hxi hne;clear hcell hcs;cases d with
       |true=>
        go_wp2_with(at_builtin;go_must((refine bH aW.stays (.agg #[.string ⟨#[]⟩,.string ⟨#[]⟩]) [.string x.name,.string x.dV] x rfl rfl underlying39 (bytes:=32) (by kernel_rfl) hO.out rfl rfl (by decide) rfl rfl (show aW _ none_ _ _ from⟨rfl,HXN.out,HXI.out⟩) (uO (d:=x)) (fun k hk=>hk.elim) (by unfold maxLen;omega) (by omega) (by have:=BW.out.size;omega) ?_);(intro A8 c8 W8 tX hgr hloc;have hb8:=BW.out.trans (hgr.below (B:=W1.heap.size) (aJ _) BW.out.size);have KO:=hOo.out.grew aW.stays hgr ha1.out.symm;have EN:=hOd.out.grew bn.stays hgr ha2.out.symm;have KR:=ha1.out.push hloc (fun g hg=>(hOo.out.row hg).2);have EP:=ha2.out.push hloc (fun g hg=>(hOd.out.row hg).2);have vU:=Lib.hid tX;have acG:=Lib.hid KO;have XO:=Lib.hid EN;have Gg:=Lib.hid hb8;have HA1:=Lib.hid KR;have HA2:=Lib.hid EP;clear tX hgr hb8 KO EN KR EP hloc)));go_roundg (lo.length-(jj+1))
        case measure=>omega
        case rel=>
         exact⟨jj+1,P.length+1,c8,A8,P++ [x],true,by omega,by omega,by go_num,rfl,rfl,aside (by simp),aside (HS.out.trans (yt P)),aside (aZ.wider aW.stays vU.out (fun k hk=>hk.elim id id) (fun k hk=>hk.elim)),aside acG.out,aside XO.out,aside HA1.out,aside HA2.out,aside Gg.out⟩
       |false=>
        cases hq:(!Op.bytesLess x.name.toList p.name.toList&& !(x.name.toList==p.name.toList))with
        |false=>
         have hq':nT p.name x.name=false:=(Yi _ _).symm.trans hq;have HQ:=Lib.hid hq';clear hq';go_wp2_with(at_builtin;go_must((refine bH aW.stays (.agg #[.string ⟨#[]⟩,.string ⟨#[]⟩]) [.string x.name,.string x.dV] x rfl rfl underlying39 (bytes:=32) (by kernel_rfl) hO.out rfl rfl (by decide) rfl rfl (show aW _ none_ _ _ from⟨rfl,HXN.out,HXI.out⟩) (uO (d:=x)) (fun k hk=>hk.elim) (by unfold maxLen;omega) (by omega) (by have:=BW.out.size;omega) ?_);(intro A8 c8 W8 tX hgr hloc;have hb8:=BW.out.trans (hgr.below (B:=W1.heap.size) (aJ _) BW.out.size);have KO:=hOo.out.grew aW.stays hgr ha1.out.symm;have EN:=hOd.out.grew bn.stays hgr ha2.out.symm;have KR:=ha1.out.push hloc (fun g hg=>(hOo.out.row hg).2);have EP:=ha2.out.push hloc (fun g hg=>(hOd.out.row hg).2);have vU:=Lib.hid tX;have acG:=Lib.hid KO;have XO:=Lib.hid EN;have Gg:=Lib.hid hb8;have HA1:=Lib.hid KR;have HA2:=Lib.hid EP;clear tX hgr hb8 KO EN KR EP hloc)));go_roundg (lo.length-(jj+1))
         case measure=>omega
         case rel=>
          exact⟨jj+1,P.length+1,c8,A8,P++ [x],false,by omega,by omega,by go_num,rfl,rfl,aside (by simp),aside (HS.out.trans (Ai P HQ.out)),aside (aZ.wider aW.stays vU.out (fun k hk=>hk.elim id id) (fun k hk=>hk.elim)),aside acG.out,aside XO.out,aside HA1.out,aside HA2.out,aside Gg.out⟩
        |true=>
         have hq':nT p.name x.name=true:=(Yi _ _).symm.trans hq;have HQ:=Lib.hid hq';clear hq';go_upto_region 20 with (at_builtin;go_must((refine bH aW.stays (.agg #[.string ⟨#[]⟩,.string ⟨#[]⟩]) [.string p.name,.string S] ⟨p.name,S⟩ rfl rfl underlying39 (bytes:=32) (by kernel_rfl) hO.out rfl rfl (by decide) rfl rfl (show aW _ none_ _ _ from⟨rfl,HPN.out,HOS.out⟩) (uO (d:=⟨p.name,S⟩)) (fun k hk=>hk.elim) (by unfold maxLen;omega) (by omega) (by have:=BW.out.size;omega) ?_);(intro A7 c7 W7' akq hgr hloc;have hb8:=BW.out.trans (hgr.below (B:=W1.heap.size) (aJ _) BW.out.size);have KO:=hOo.out.grew aW.stays hgr ha1.out.symm;have EN:=hOd.out.grew bn.stays hgr ha2.out.symm;have KR:=ha1.out.push hloc (fun g hg=>(hOo.out.row hg).2);have EP:=ha2.out.push hloc (fun g hg=>(hOd.out.row hg).2);have z0:=(World.cell?_of_block (a:=⟨bo,off+jj*2,none⟩) (hgr.block bo ni BH.out)).trans hc0;have z1:=(World.cell?_of_block (a:=⟨bo,off+jj*2+1,none⟩) (hgr.block bo ni BH.out)).trans hc1;clear hc0 hc1;have amM:=Lib.hid (aZ.wider aW.stays akq (F':=none_) (fun k hk=>hk.elim id id) (fun k hk=>hk.elim));have ajz:=Lib.hid KO;have ajy:=Lib.hid EN;have agO:=Lib.hid hb8;have ai7:=Lib.hid KR;have ai8:=Lib.hid EP;clear akq hgr hb8 KO EN KR EP hloc)))
         have adQ:(P++ [(⟨p.name,S⟩:Known)]).length=P.length+1:=by simp
         go_wp2_with(at_builtin;go_must((refine bH aW.stays (.agg #[.string ⟨#[]⟩,.string ⟨#[]⟩]) [.string x.name,.string x.dV] x rfl rfl underlying39 (bytes:=32) (by kernel_rfl) amM.out rfl rfl (by decide) rfl rfl (show aW _ none_ _ _ from⟨rfl,HXN.out,HXI.out⟩) (uO (d:=x)) (fun k hk=>hk.elim) (by unfold maxLen;omega) (by omega) (by have:=agO.out.size;omega) ?_);(intro A8 c8 W8 tX hgr hloc;have hb8:=agO.out.trans (hgr.below (B:=W1.heap.size) (aJ _) agO.out.size);have KO:=ajz.out.grew aW.stays hgr ai7.out.symm;have EN:=ajy.out.grew bn.stays hgr ai8.out.symm;have KR:=ai7.out.push hloc (fun g hg=>(ajz.out.row hg).2);have EP:=ai8.out.push hloc (fun g hg=>(ajy.out.row hg).2);have vU:=Lib.hid tX;have acG:=Lib.hid KO;have XO:=Lib.hid EN;have Gg:=Lib.hid hb8;have HA1:=Lib.hid KR;have HA2:=Lib.hid EP;clear tX hgr hb8 KO EN KR EP hloc)));go_roundg (lo.length-(jj+1))
         case measure=>omega
         case rel=>
          exact⟨jj+1,P.length+1+1,c8,A8,P++ [⟨p.name,S⟩,x],true,by omega,by omega,by go_num,rfl,rfl,aside (by simp),aside (HS.out.trans (Ah P HQ.out)),aside (by have h:=aZ.wider aW.stays vU.out (F':=none_) (fun k hk=>hk.elim id id) (fun k hk=>hk.elim);rw[adQ]at h;simpa using h),aside acG.out,aside XO.out,aside (by have h:=HA1.out;rw[adQ]at h;exact h),aside (by have h:=HA2.out;rw[adQ]at h;exact h),aside Gg.out⟩
      ·have adN:¬(jj:Int)<(lo.length:Int):=by omega
       obtain rfl:jj=lo.length:=by omega
       cases d with
       |true=>
        have he:=Aj (f:=Known.name) (y:=(⟨p.name,S⟩:Known)) (l:=lo) (by rw[hin.out]);rw[hin.out]at he;have hnew:jf Known.name (jA m l (kk+1))=P:=by rw[NG.out,vM,HLO.out];exact he.symm
        clear he;have hbn:o7 m l (kk+1)=bd:=by rw[NH.out,XB.out]
        obtain⟨JL,HBN⟩:=aj hnew hbn;clear hnew hbn;go_wp2_with fail;go_roundg (m.types.length-(kk+1))
        case measure=>omega
        case rel=>
         exact⟨kk+1,P.length,cb,n2,c2,B,A2,by omega,by omega,by go_num,rfl,rfl,aside (by rw[JL.out]),aside (by rw[HBN.out];exact hn2.out),aside (by rw[JL.out];exact hO.out),aside (by rw[HBN.out];exact hOd.out),aside ha2.out,aside BW.out⟩
       |false=>
        have he:=Ce (f:=Known.name) (y:=(⟨p.name,S⟩:Known)) (l:=lo) (by rw[hin.out]);rw[hin.out]at he;have hnew:jf Known.name (jA m l (kk+1))=P++ [⟨p.name,S⟩]:=by rw[NG.out,vM,HLO.out];exact he.symm
        clear he;have hbn:o7 m l (kk+1)=bd:=by rw[NH.out,XB.out]
        obtain⟨JL,HBN⟩:=aj hnew hbn;clear hnew hbn;go_wp2_with(at_builtin;go_must((refine bH aW.stays (.agg #[.string ⟨#[]⟩,.string ⟨#[]⟩]) [.string p.name,.string S] ⟨p.name,S⟩ rfl rfl underlying39 (bytes:=32) (by kernel_rfl) hO.out rfl rfl (by decide) rfl rfl (show aW _ none_ _ _ from⟨rfl,HPN.out,HOS.out⟩) (uO (d:=⟨p.name,S⟩)) (fun k hk=>hk.elim) (by unfold maxLen;omega) (by omega) (by have:=BW.out.size;omega) ?_);(intro A8 c8 W8 tX hgr hloc;have hb8:=BW.out.trans (hgr.below (B:=W1.heap.size) (aJ _) BW.out.size);have EN:=hOd.out.grew bn.stays hgr ha2.out.symm;have EP:=ha2.out.push hloc (fun g hg=>(hOd.out.row hg).2);have vU:=Lib.hid tX;have XO:=Lib.hid EN;have Gg:=Lib.hid hb8;have HA2:=Lib.hid EP;clear tX hgr hb8 EN EP hloc)));go_roundg (m.types.length-(kk+1))
        case measure=>omega
        case rel=>
         exact⟨kk+1,P.length+1,c8,n2,c2,A8,A2,by omega,by omega,by go_num,rfl,rfl,aside (by rw[JL.out];simp),aside (by rw[HBN.out];exact hn2.out),aside (by rw[JL.out];exact aZ.wider aW.stays vU.out (fun k hk=>hk.elim id id) (fun k hk=>hk.elim)),aside (by rw[HBN.out];exact XO.out),aside HA2.out,aside Gg.out⟩
    ·have hCz:(C==0)=false:=by simp[hC]
     have hq0:=Td.out (by rw[hcode];exact hC);have hq1:=Tf.out (by rw[hcode];exact hC);rw[hcode]at hq1;obtain⟨BI,BJ⟩:=aj hq0 hq1;clear hq0 hq1;clear XP Xt Td Tf OI Xu hcode;go_wp2_with(at_builtin;go_must((refine bH bn.stays (.agg #[.string ⟨#[]⟩,.int .i64 0]) [.string p.name,.int .i64 C] ⟨p.name,C⟩ rfl rfl underlying43 (bytes:=24) (by kernel_rfl) aeZ.out rfl rfl (by decide) rfl rfl (show bn W7 none_ _ _ from⟨rfl,HPN.out,XD.out⟩) (lC (d:=⟨p.name,C⟩)) (fun k hk=>hk.elim) (by unfold maxLen;have:=HB4.out;omega) (by have:=HB4.out;omega) (by have:=zD.out.size;omega) ?_);(intro A8 c8 W8 tX hgr hloc;have hb8:=zD.out.trans (hgr.below (B:=W1.heap.size) (aJ _) zD.out.size);have qA:=BQ.out.grew aW.stays hgr hap.out;have adE:=hap.out.symm.push hloc (fun g hg=>(BQ.out.row hg).2);have vU:=Lib.hid tX;have zn:=Lib.hid qA;have Gg:=Lib.hid hb8;have HAP:=Lib.hid adE;clear tX hgr hb8 qA adE hloc)));go_roundg (m.types.length-(kk+1))
     case measure=>omega
     case rel=>
      exact⟨kk+1,n,c,(o7 m l kk).length+1,c8,A,A8,by omega,by omega,by go_num,rfl,rfl,aside (by rw[BI.out];exact hn.out),aside (by rw[BJ.out];simp),aside (by rw[BI.out];exact zn.out),aside (by rw[BJ.out];exact aZ.wider bn.stays vU.out (fun k hk=>hk.elim id id) (fun k hk=>hk.elim)),aside HAP.out.symm,aside Gg.out⟩
  ·have hltz:¬(kk:Int)<(m.types.length:Int):=by omega
   obtain rfl:kk=m.types.length:=by omega
   have hg4:=wZ (m:=m) (l:=l) m.types.length;have hb4:=zL (m:=m) (l:=l) m.types.length;have hlow:=Hz.out;have y1:=hB1.at_ 1 _ rfl;have hsl:=hO.out.slice aW.stays (jZ:=32) (F':=fresh w.heap.size wo.heap.size) (fun k hk=>hk.elim) (fun k h1 h2=>⟨by omega,h2⟩) (by rw[iC];omega) (by rw[iC];omega);have hsl2:=hO2.out.slice bn.stays (jZ:=24) (F':=fresh w.heap.size wo.heap.size) (fun k hk=>hk.elim) (fun k h1 h2=>⟨by omega,h2⟩) (by omega) (by omega);obtain⟨HSL,ahn,BG⟩:=ak hsl hsl2 hbw;clear hsl hsl2 hbw;clear hB1;go_wp2_with fail
   go_ret2
   exact⟨_,_,rfl,BG.out,HSL.out,ahn.out⟩
end Go.Proofs.YtjaladhdnbhliaaGreatDoor
