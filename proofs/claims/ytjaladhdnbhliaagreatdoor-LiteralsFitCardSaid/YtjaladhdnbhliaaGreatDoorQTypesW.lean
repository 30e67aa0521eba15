/- Parts. -/
import Derived.Test.YtjaladhdnbhliaaGreatDoorQTypeAll
import Derived.Test.YtjaladhdnbhliaaGreatDoorQAliasUse
set_option maxHeartbeats 8000000
set_option maxRecDepth 100000
namespace Go.Proofs.YtjaladhdnbhliaaGreatDoor
open Go.Proofs.Tryz
open Go.RowKit Go.Shelf
theorem abp{d:Known}:∀u∈[Value.string d.name,.string d.dV],u.oneCell'=true:=by
 intro u hu;simp only[List.mem_cons,List.not_mem_nil,or_false]at hu;rcases hu with rfl|rfl<;>rfl
theorem VX(x:Field)(cs:List Value)(F:aV)(t:ByteArray)(b:Nat)(W:World)(hx:aQ W F cs x)(ha:W.cell? ⟨b,0,none⟩=some (.string t)):
  Calls prog 91 #[.agg cs.toArray,.pointer (some ⟨b,0,none⟩)] W fun e w'=>e=.returned (.bool (bU t x))∧Below W.heap.size W w':=by
 have hlt:=World.block_lt_of_cell? W _ ha;obtain⟨c0,c1,c2,c3,rfl,_,ht⟩:=aQ.form hx;obtain⟨A2,n2,hf⟩:=iD.form ht;simp only[List.cons.injEq,and_true]at hf;obtain⟨rfl,rfl,rfl,rfl⟩:=hf;clear hx ht;unfold bU iT;go_enter func91,ntmps91;cases hq:(x.name.toList==t.toList);all_goals (go_wp2;go_ret;exact⟨by simp,by go_grown⟩)
theorem Ov(l:List Field)(T1:Option Addr)(n e1:Nat)(_hn:n=l.length)(t:ByteArray)(b:Nat)(F:aV)(w:World)(hF:∀k,F k→k<w.heap.size)(hl:SliceOf aQ 5 80 w F (.slice T1 n e1) l)(ha:w.cell? ⟨b,0,none⟩=some (.string t)):
  Calls prog 90 #[.slice T1 n e1,.func (.func 91) #[] #[.pointer (some ⟨b,0,none⟩)]] w fun e w'=>e=.returned (.bool (l.any (bU t)))∧Below w.heap.size w w':=
 sD (.slice T1 n e1) l F 91 #[.pointer (some ⟨b,0,none⟩)] (bU t) w (enters_of func91 (by kernel_rfl) rfl) hF hl (fun U x cs _ hU hr=>by
  have h:=VX x cs F t b U hr ((hU.cell (World.block_lt_of_cell? w _ ha)).trans ha);obtain⟨_,_,_,_,rfl,_,_⟩:=aQ.form hr;exact h)
theorem SS(s s' t t':ByteArray)(W:World):Calls prog 94 #[.agg #[.string s,.string s'],.agg #[.string t,.string t']] W fun e w'=>e=.returned (.int .i64 (Lib.compareBytes s.data.toList t.data.toList))∧∃q os,w'=Sort.grow (W.drewN q) os:=by
 have hcon:=fun W'=>Tryz.strings_Compare s t W'
 generalize Lib.compareBytes s.data.toList t.data.toList=r at hcon⊢;go_enter func94,ntmps94;go_wp2_with(go_at_call 57;refine(hcon _).mono ?_;rintro e w' ⟨rfl,rfl⟩);go_ret;exact⟨rfl,0,_,by rw[Sort.alloc_eq_grow,Sort.alloc_eq_grow,Sort.grow_grow];rfl⟩
def YD(cs:List Value)(s:ByteArray):Prop:=∃t,cs= [.string s,.string t]
theorem MZ{base:Nat}{F:aV}{w:World}{v:Value}{l:List Known}(h:aZ aW 2 100 base w F v l)(hl:l.length≤100)(hd:zB Known.name l):
  Calls prog 93 #[v,.func (.func 94) #[] #[]] w fun en w'=>en=.returned (.tuple #[])∧aZ aW 2 100 base w' F v (jf Known.name l)∧Grew base w w' v.ownBlock:=by
 have hcon:=Na aW.stays Known.name YD 2 (by rintro cs s ⟨t,rfl⟩;exact⟨rfl,by intro u hu;simp only[List.mem_cons,List.not_mem_nil,or_false]at hu;rcases hu with rfl|rfl<;>rfl⟩) (by rintro w F cs x ⟨rfl,_⟩;exact⟨_,rfl⟩)
  Tryz.abQ isAgg100 sizeOf100 94 (enters_of func94 (by kernel_rfl) rfl)
  (by rintro cs ds s t W ⟨s',rfl⟩ ⟨t',rfl⟩;exact SS s s' t t' W) h (by omega)
 change Calls prog 93 _ _ _ at hcon;refine hcon.mono ?_;rintro e w' ⟨he,l',hp,hs,hO,hg⟩;rw[Nb hp hd hs]at hO;exact⟨he,hO,hg⟩
theorem zJ(m:Module)(l:List Import)(hm0:dD m=0)(hl0:bG l=0)(ds:List Value)(lv:Value)(w:World)
  (hm:aN w (old w.heap.size) ds m) (hl:SliceOf aU 4 72 w (old w.heap.size) lv l):
  Calls prog 45 #[.agg ds.toArray,lv] w fun e w'=>∃v1 v2:Value,e=.returned (.tuple #[v1,v2])∧Below w.heap.size w w'∧SliceOf aW 2 32 w' (fresh w.heap.size w'.heap.size) v1 (typesOf m l)∧SliceOf bn 2 24 w' (fresh w.heap.size w'.heap.size) v2 (pU m l):=by
 obtain⟨U1,u1,T1,e1,T2,e2,rfl,_,hT,_⟩:=aN.form hm;obtain⟨L1,l1,rfl,_⟩:=hl.form;have ng:=gJ hm0;have hsv:=fun(U:World) (p:Ty) (cs:List Value) (hU:Below w.heap.size w U) (hp:dn 10 p=0) (hr:iD U (old U.heap.size) cs p)=>
  zI m l hm0 hl0 10 ⟨#[]⟩ p [.slice U1 m.uses.length u1,.slice T1 m.types.length e1,.slice T2 m.funcs.length e2] cs (.slice L1 l.length l1) U hp (aJ _) (Nat.zero_le _) (dI aN.stays hm hU) (bK aU.stays hl hU) hr
 have hnf:∀x∈m.types,aX x.name=true:=fun x hx=>(lI (iZ (mod_zero hm0).1 x hx)).1
 have hst:=nH hl0;have hTc:=hT.caps;have ail:m.types.length≤24:=by omega
 obtain⟨HSV,HNF,HST,HT,rG⟩:=ay hsv hnf hst hT ng;clear hsv hnf hst hT ng;clear hm hl hm0 hl0;go_enter func45,ntmps45;go_wp2_with fail;have hBb:=Box.made w 27 #[.slice U1 m.uses.length u1,.slice T1 m.types.length e1,.slice T2 m.funcs.length e2];have hbb:Below w.heap.size w (w.alloc (.cells #[.slice U1 m.uses.length u1,.slice T1 m.types.length e1,.slice T2 m.funcs.length e2] 27)):=by go_grown
 have hzb:(w.alloc (.cells #[.slice U1 m.uses.length u1,.slice T1 m.types.length e1,.slice T2 m.funcs.length e2] 27)).heap.size=w.heap.size+1:=by simp
 generalize w.alloc (.cells #[.slice U1 m.uses.length u1,.slice T1 m.types.length e1,.slice T2 m.funcs.length e2] 27)=W1 at hBb hbb hzb⊢;obtain⟨HB,Hb,Hz⟩:=ak hBb hbb hzb;clear hBb hbb hzb;go_loopg [6,7,8,9,10,11,15] m.types.length (fun gg s6 s7 s8 s9 s10 s11 s15 wr=>∃(kk n c n2 c2:Nat) (A A2:Option Addr),kk≤m.types.length∧m.types.length-kk≤gg∧s15=.int .i64 kk∧s6=.slice A n c∧s7=.slice A2 n2 c2∧Aside (n=(jA m l kk).length)∧Aside (n2=(o7 m l kk).length)∧
  Aside (aZ aW 2 100 W1.heap.size wr none_ (.slice A n c) (jA m l kk))∧Aside (aZ bn 2 53 W1.heap.size wr none_ (.slice A2 n2 c2) (o7 m l kk))∧Aside (Apart (.slice A n c) (.slice A2 n2 c2))∧Aside (Below W1.heap.size W1 wr))
 case atStart=>exact⟨0,0,0,0,0,none,none,Nat.zero_le _,by omega,rfl,rfl,rfl,aside rfl,aside rfl,aside aZ.nil_,aside aZ.nil_,aside (fun g hg=>by cases hg),aside (Below.refl _ _)⟩
 case round=>
  obtain⟨kk,n,c,n2,c2,A,A2,hkk,hg,rfl,rfl,rfl,hn,hn2,hO,hO2,hap,BW⟩:=hrel;have hB1:=HB.out.later BW.out HB.out.lt;have hbw:=Hb.out.trans (BW.out.mono Hb.out.size)
  by_cases hlt:kk<m.types.length
  ·have hltz:(kk:Int)<(m.types.length:Int):=by omega
   have hat:=bK aQ.stays HT.out hbw;obtain⟨bp,lF,cs,hP1,jc,hcs,hpr,hcell⟩:=hat.at_ (k:=kk) hlt;have hpx:=aK hlt;have hnm:=HNF.out _ (List.getElem_mem hlt);generalize m.types[kk]=p at hpx hpr hnm;obtain⟨d1,d2,d3,d4,rfl,hpn,hpt⟩:=aQ.form hpr;obtain⟨A4,n4,hf⟩:=iD.form hpt;simp only[List.cons.injEq,and_true]at hf;obtain⟨rfl,rfl,rfl,rfl⟩:=hf;have hc0:=hcell 0 _ rfl;have hc1:=hcell 1 _ rfl;have hc2:=hcell 2 _ rfl;have hc3:=hcell 3 _ rfl;have hc4:=hcell 4 _ rfl;simp only[Nat.add_zero]at hc0;subst hP1;have hqp:bp<wr.heap.size:=jc;have htk:=hat.take (k:=kk) (by omega);have htl:(m.types.take kk).length=kk:=by simp;omega
   have hg4:=wZ (m:=m) (l:=l) kk;have hb4:=zL (m:=m) (l:=l) kk;have hp0:=fun h=>qQ (l:=l) hpx h
   have hp1:=fun h=>yN (l:=l) hpx h
   have hq0:=fun h=>Df (l:=l) hpx h
   have hq1:=fun h=>OM (l:=l) hpx h
   have hq2:=fun h=>zY (l:=l) hpx h
   have hq3:=fun h=>J8 (l:=l) hpx h
   obtain⟨za,hza⟩:∃z,(m.types.take kk).any (bU p.name)=z:=⟨_,rfl⟩;rw[hza]at hp0 hp1;obtain⟨HAT,qR,Ee,HPX,HPN,XP,Xt,Td,Tf,OI,Xu,HTL⟩:=aI hat htk hnm hpx hpn hp0 hp1 hq0 hq1 hq2 hq3 htl;obtain⟨HZA,Jb,zy,HG4,HB4⟩:=ay hza hB1 hbw hg4 hb4;clear hat htk hnm hpx hpn hp0 hp1 hq0 hq1 hq2 hq3 htl hza hB1 hbw hg4 hb4;clear hpr hcell hcs jc hpt;have y1:=Jb.out.at_ 1 _ rfl;go_upto_region 6 with fail
   clear y1;have qP:=Box.made wr 78 #[.string p.name,.int .i64 p.dV.kind,.string p.dV.bT,.string p.dV.name,.slice A4 p.dV.args.length n4];have hbp:Below wr.heap.size wr (wr.alloc (.cells #[.string p.name,.int .i64 p.dV.kind,.string p.dV.bT,.string p.dV.name,.slice A4 p.dV.args.length n4] 78)):=by go_grown
   have hzp:(wr.alloc (.cells #[.string p.name,.int .i64 p.dV.kind,.string p.dV.bT,.string p.dV.name,.slice A4 p.dV.args.length n4] 78)).heap.size=wr.heap.size+1:=by simp
   generalize wr.alloc (.cells #[.string p.name,.int .i64 p.dV.kind,.string p.dV.bT,.string p.dV.name,.slice A4 p.dV.args.length n4] 78)=W4 at qP hbp hzp⊢;have hB1:=Jb.out.later hbp Jb.out.lt;have hbw:=zy.out.trans (hbp.mono zy.out.size);have hb4:=BW.out.trans (hbp.mono BW.out.size);have hO4:=hO.out.below aW.stays hbp;have akn:=hO2.out.below bn.stays hbp;have hpc:=Ov (m.types.take kk) (some ⟨bp,lF,none⟩) kk e1 HTL.out.symm p.name wr.heap.size (old W4.heap.size) W4 eF (bK aQ.stays qR.out hbp) (qP.at_ 0 _ rfl);rw[HZA.out]at hpc;clear hc0 hc1 hc2 hc3 hc4 hzp;have y1:=hB1.at_ 1 _ rfl;obtain⟨Nz,acs,ajc,zl,amL,HPC,HBP⟩:=aB hB1 hbw hb4 hO4 akn hpc qP;clear hB1 hbw hb4 hO4 akn hpc qP;clear hbp Jb hO hO2 BW HAT qR zy;go_wp2_with fail;refine HPC.out.mono ?_;rintro e W5 ⟨rfl,hb5⟩;have hB1:=Nz.out.later hb5 Nz.out.lt;have qP:=HBP.out.later hb5 HBP.out.lt;have hbw:=acs.out.trans (hb5.mono acs.out.size);have hb4:=ajc.out.trans (hb5.mono ajc.out.size);have sF:=zl.out.below aW.stays hb5;have afk:=amL.out.below bn.stays hb5;clear y1 HPC hb5;have p0:=qP.at_ 0 _ rfl;cases za with
   |true=>
    have hcode:=XP.out rfl;have hq0:=Td.out (by rw[hcode];decide);have hq1:=Tf.out (by rw[hcode];decide);rw[hcode]at hq1;obtain⟨xJ,ahd,CO,kG,BI,BJ⟩:=aA sF afk hbw hb4 hq0 hq1;clear sF afk hbw hb4 hq0 hq1;clear hB1 qP XP Xt Td Tf OI Xu;go_wp2_with(at_builtin;go_must((refine bH bn.stays (.agg #[.string ⟨#[]⟩,.int .i64 0]) [.string p.name,.int .i64 4] ⟨p.name,4⟩ rfl rfl underlying43 (bytes:=24) (by kernel_rfl) ahd.out rfl rfl (by decide) rfl rfl (show bn W5 none_ _ _ from⟨rfl,HPN.out,(show I64 4 from⟨by decide,by decide⟩)⟩) (lC (d:=⟨p.name,4⟩)) (fun k hk=>hk.elim) (by unfold maxLen;have:=HB4.out;omega) (by have:=HB4.out;omega) (by have:=kG.out.size;omega) ?_);(intro A6 c6 W6 mV hgr hloc;have hb6:=kG.out.trans (hgr.below (B:=W1.heap.size) (aJ _) kG.out.size);have xY:=xJ.out.grew aW.stays hgr hap.out;have akD:=hap.out.symm.push hloc (fun g hg=>(xJ.out.row hg).2);have uq:=Lib.hid mV;have BQ:=Lib.hid xY;have kH:=Lib.hid hb6;have HAP:=Lib.hid akD;clear mV hgr hb6 xY akD hloc)));go_roundg (m.types.length-(kk+1))
    case measure=>omega
    case rel=>
     exact⟨kk+1,n,c,(o7 m l kk).length+1,c6,A,A6,by omega,by omega,by go_num,rfl,rfl,aside (by rw[BI.out];exact hn.out),aside (by rw[BJ.out];simp),aside (by rw[BI.out];exact BQ.out),aside (by rw[BJ.out];exact aZ.wider bn.stays uq.out (fun k hk=>hk.elim id id) (fun k hk=>hk.elim)),aside HAP.out.symm,aside kH.out⟩
   |false=>
    have hcode:=Xt.out rfl;have hnt:=Aw Ee.out;have htr:iD W5 (old W5.heap.size) [.int .i64 4,.string ⟨#[]⟩,.string p.name,.slice none 0 0] (mF p.name):=⟨1,_,rfl,(show I64 4 from⟨by decide,by decide⟩),Nat.zero_le _,HPN.out,SliceOf.nil_⟩;have hsv:=HSV.out W5 (mF p.name) _ hbw hnt htr;have hsz:=CG (m:=m) HST.out p.name;have hci:=tJ (m:=m) (l:=l) ⟨#[]⟩ (mF p.name);have hq0:=Td.out;have hq1:=Tf.out;have hq2:=OI.out;have hq3:=Xu.out;rw[hcode]at hq0 hq1 hq2 hq3;generalize dA m l ⟨#[]⟩ (mF p.name)=r at hsv hsz hci hq0 hq1 hq2 hq3;obtain⟨S,C⟩:=r;dsimp only at hsv hsz hci hq0 hq1 hq2 hq3;have y0:=hB1.at_ 0 _ rfl;have y1:=hB1.at_ 1 _ rfl;have y2:=hB1.at_ 2 _ rfl;obtain⟨Nz,ajf,xJ,ahd,CO,kG,zG,Ny,XD,BI,BJ,NG⟩:=aI hB1 qP sF afk hbw hb4 hsv hsz hci hq0 hq1 hq2;have NH:=ah hq3;clear hB1 qP sF afk hbw hb4 hsv hsz hci hq0 hq1 hq2 hq3;clear XP Xt Td Tf OI Xu htr hnt hcode;go_wp2_with fail;refine zG.out.mono ?_;rintro e W6 ⟨rfl,hb6⟩;have qP:=ajf.out.later hb6 ajf.out.lt;have hbw:=CO.out.trans (hb6.mono CO.out.size);have hb4:=kG.out.trans (hb6.mono kG.out.size);have mV:=xJ.out.below aW.stays hb6;have UA:=ahd.out.below bn.stays hb6;clear y0 y1 y2 p0 zG hb6;have p0:=qP.at_ 0 _ rfl;have ZT:okS S:=by have:=Ny.out;unfold okS;omega
    obtain⟨uq,aaF,Ja,kH⟩:=au mV UA hbw hb4;clear mV UA hbw hb4;clear qP
    by_cases hC:C=0
    ·subst hC;have hq2:=NG.out rfl;have hq3:=NH.out rfl;obtain⟨af9,aga⟩:=aj hq2 hq3;clear hq2 hq3;go_wp2_with(at_builtin;go_must((refine bH aW.stays (.agg #[.string ⟨#[]⟩,.string ⟨#[]⟩]) [.string p.name,.string S] ⟨p.name,S⟩ rfl rfl underlying39 (bytes:=32) (by kernel_rfl) uq.out rfl rfl (by decide) rfl rfl (show aW W6 none_ _ _ from⟨rfl,HPN.out,ZT⟩) (abp (d:=⟨p.name,S⟩)) (fun k hk=>hk.elim) (by unfold maxLen;have:=HG4.out;omega) (by have:=HG4.out;omega) (by have:=kH.out.size;omega) ?_);(intro A7 c7 W7 xY hgr hloc;have hb7:=kH.out.trans (hgr.below (B:=W1.heap.size) (aJ _) kH.out.size);have tX:=aaF.out.grew bn.stays hgr hap.out.symm;have adD:=hap.out.push hloc (fun g hg=>(aaF.out.row hg).2);have BQ:=Lib.hid xY;have vU:=Lib.hid tX;have zD:=Lib.hid hb7;have HAP:=Lib.hid adD;clear xY hgr hb7 tX adD hloc)));go_roundg (m.types.length-(kk+1))
     case measure=>omega
     case rel=>
      exact⟨kk+1,(jA m l kk).length+1,c7,n2,c2,A7,A2,by omega,by omega,by go_num,rfl,rfl,aside (by rw[af9.out];simp),aside (by rw[aga.out];exact hn2.out),aside (by rw[af9.out];exact aZ.wider aW.stays BQ.out (fun k hk=>hk.elim id id) (fun k hk=>hk.elim)),aside (by rw[aga.out];exact vU.out),aside HAP.out,aside zD.out⟩
    ·have hCz:(C==0)=false:=by simp[hC]
     have hq0:=BI.out hC;have hq1:=BJ.out hC;obtain⟨af7,af8⟩:=aj hq0 hq1;clear hq0 hq1;go_wp2_with(at_builtin;go_must((refine bH bn.stays (.agg #[.string ⟨#[]⟩,.int .i64 0]) [.string p.name,.int .i64 C] ⟨p.name,C⟩ rfl rfl underlying43 (bytes:=24) (by kernel_rfl) aaF.out rfl rfl (by decide) rfl rfl (show bn W6 none_ _ _ from⟨rfl,HPN.out,XD.out⟩) (lC (d:=⟨p.name,C⟩)) (fun k hk=>hk.elim) (by unfold maxLen;have:=HB4.out;omega) (by have:=HB4.out;omega) (by have:=kH.out.size;omega) ?_);(intro A7 c7 W7 xY hgr hloc;have hb7:=kH.out.trans (hgr.below (B:=W1.heap.size) (aJ _) kH.out.size);have tX:=uq.out.grew aW.stays hgr hap.out;have adD:=hap.out.symm.push hloc (fun g hg=>(uq.out.row hg).2);have BQ:=Lib.hid xY;have vU:=Lib.hid tX;have zD:=Lib.hid hb7;have HAP:=Lib.hid adD;clear xY hgr hb7 tX adD hloc)));go_roundg (m.types.length-(kk+1))
     case measure=>omega
     case rel=>
      exact⟨kk+1,n,c,(o7 m l kk).length+1,c7,A,A7,by omega,by omega,by go_num,rfl,rfl,aside (by rw[af7.out];exact hn.out),aside (by rw[af8.out];simp),aside (by rw[af7.out];exact vU.out),aside (by rw[af8.out];exact aZ.wider bn.stays BQ.out (fun k hk=>hk.elim id id) (fun k hk=>hk.elim)),aside HAP.out.symm,aside zD.out⟩
  ·have hltz:¬(kk:Int)<(m.types.length:Int):=by omega
   obtain rfl:kk=m.types.length:=by omega
   have hg4:=wZ (m:=m) (l:=l) m.types.length;have hb4:=zL (m:=m) (l:=l) m.types.length;have hso:=MZ hO.out (by omega) (xW _);obtain⟨HSO,Jb,zy⟩:=ak hso hB1 hbw;clear hso hB1 hbw;go_wp2_with fail;refine HSO.out.mono ?_;rintro e W6 ⟨rfl,mV,hgr⟩;have hlow:=Hz.out;have UA:=hO2.out.grew bn.stays hgr hap.out.symm;have hb6:=BW.out.trans (hgr.below (B:=W1.heap.size) (aJ _) BW.out.size);have Dl:=Hb.out.trans (hb6.mono Hb.out.size);have hsl:=mV.slice aW.stays (jZ:=32) (F':=fresh w.heap.size W6.heap.size) (fun k hk=>hk.elim) (fun k h1 h2=>⟨by omega,h2⟩) (by rw[iC];omega) (by rw[iC];omega);have hsl2:=UA.slice bn.stays (jZ:=24) (F':=fresh w.heap.size W6.heap.size) (fun k hk=>hk.elim) (fun k h1 h2=>⟨by omega,h2⟩) (by omega) (by omega);obtain⟨HSL,ahn,BG⟩:=ak hsl hsl2 Dl;clear hsl hsl2 Dl;clear mV hgr UA hb6;go_wp2_with fail
   go_ret2
   exact⟨_,_,rfl,BG.out,HSL.out,ahn.out⟩
end Go.Proofs.YtjaladhdnbhliaaGreatDoor
