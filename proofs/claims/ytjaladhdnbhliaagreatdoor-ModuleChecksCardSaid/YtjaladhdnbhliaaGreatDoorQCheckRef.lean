/- Parts. -/
import Derived.Test.YtjaladhdnbhliaaGreatDoorQModCheck
import Derived.Test.YtjaladhdnbhliaaGreatDoorQRefModule
import Derived.Test.YtjaladhdnbhliaaGreatDoorQFaceOf
set_option maxHeartbeats 8000000
namespace Go.Proofs.YtjaladhdnbhliaaGreatDoor
open Go.Proofs.Tryz
open Go.RowKit Go.Shelf
set_option maxRecDepth 100000 in
theorem NP(s:ByteArray)(l:List Import)(lv:Value)(W:World)(hl:SliceOf aU 4 72 W (old W.heap.size) lv l):
  Calls prog 17 #[.string s,lv] W (OD (iq s l) W):=by
 obtain⟨L1,l1,rfl,_⟩:=hl.form;obtain⟨E,hE⟩:∃E,iq s l=E:=⟨_,rfl⟩;rw[hE];have hci:=fun U (hU:Below W.heap.size W U)=>GV (.slice L1 l.length l1) l (old U.heap.size) U eF (bK aU.stays hl hU)
 have hrd:=fun U=>RH s U
 have hrg:=DW s;obtain⟨z,hz⟩:∃z,bG l=z:=⟨_,rfl⟩;simp only[hz]at hci;obtain⟨⟨m,k⟩,hR⟩:∃p,kF s=p:=⟨_,rfl⟩;simp only[hR]at hrd;rw[hR]at hrg;dsimp only at hrg;obtain⟨HE,XD,HRD,TN,HZ,HRR,HL⟩:=aB hE hci hrd hrg hz hR hl;clear hE hci hrd hrg hz hR hl;go_enter func17,ntmps17;go_upto_region 1 with fail
 have hBr:=Box.made W 42 #[.slice none 0 0,.slice none 0 0];have hbr:Below W.heap.size W (W.alloc (.cells #[.slice none 0 0,.slice none 0 0] 42)):=by go_grown
 have kJ:(W.alloc (.cells #[.slice none 0 0,.slice none 0 0] 42)).heap.size=W.heap.size+1:=by simp
 generalize W.alloc (.cells #[.slice none 0 0,.slice none 0 0] 42)=W1 at hBr hbr kJ⊢;obtain⟨HR1,Hb1⟩:=aj hBr hbr;clear hBr hbr;clear kJ;go_wp2_with fail;refine(XD.out _ Hb1.out).mono ?_;rintro e W2 ⟨rfl,hb2⟩;have hr2:=HR1.out.later hb2 HR1.out.lt;have hbw2:=Hb1.out.trans (hb2.mono Hb1.out.size);have hrl:=hr2.lt;have x0:=hr2.at_ 0 _ rfl;have x1:=hr2.at_ 1 _ rfl;have g0:=hr2.free 0;have g1:=hr2.free 1;obtain⟨HR2,HB2⟩:=aj hr2 hbw2;clear hr2 hbw2;clear hb2 HR1 Hb1
 by_cases hz0:z=0
 rotate_left
 ·have hz1:(z !=0)=true:=by simp[hz0]
  have hx:E=(pJ,[],z):=by rw[←HE.out,BX (by rw[HZ.out];exact hz0),HZ.out]
  subst hx;clear hz0;go_wp2_with fail;exact bodyPost_ret (v:=.tuple #[.agg #[.slice none 0 0,.slice none 0 0],.slice none 0 0,.int .i64 z]) (by simp[results,results17,go_sem,x0,x1]) rfl
   ⟨[.slice none 0 0,.slice none 0 0],.slice none 0 0,rfl,(HB2.out.setCell (aJ _) _).setCell (aJ _) _,⟨_,_,rfl,SliceOf.nil_,SliceOf.nil_⟩,SliceOf.nil_⟩
 subst hz0;clear x0 x1 g0 g1;go_wp2_with fail;refine(HRD.out _).mono ?_;rintro e W3 ⟨v1,v2,v3,rfl,hb3,Tt⟩;dsimp only at Tt⊢;obtain⟨U1,u1,T1,t1,X1,x1,hcs,_⟩:=aN.form Tt;simp only[List.cons.injEq,and_true]at hcs;obtain⟨rfl,rfl,rfl⟩:=hcs;have hr3:=HR2.out.later hb3 HR2.out.lt;have hbw3:=HB2.out.trans (hb3.mono HB2.out.size);obtain⟨Tc,HR3,HB3⟩:=ak Tt hr3 hbw3;clear Tt hr3 hbw3;clear hb3 HR2 HB2;go_upto_region 5 with fail
 have hBm:=Box.made W3 27 #[.slice U1 m.uses.length u1,.slice T1 m.types.length t1,.slice X1 m.funcs.length x1];have hbm:Below W3.heap.size W3 (W3.alloc (.cells #[.slice U1 m.uses.length u1,.slice T1 m.types.length t1,.slice X1 m.funcs.length x1] 27)):=by go_grown
 have hzm:(W3.alloc (.cells #[.slice U1 m.uses.length u1,.slice T1 m.types.length t1,.slice X1 m.funcs.length x1] 27)).heap.size=W3.heap.size+1:=by simp
 generalize W3.alloc (.cells #[.slice U1 m.uses.length u1,.slice T1 m.types.length t1,.slice X1 m.funcs.length x1] 27)=W4 at hBm hbm hzm⊢;have hr4:=HR3.out.later hbm HR3.out.lt;have ER:=HB3.out.trans (hbm.mono HB3.out.size);have hm4:=DU aN.stays (aN.stays.later Tc.out hbm cZ) (fun k hk=>Nat.lt_of_lt_of_le hk.2 hbm.size);have hlt4:=hr4.lt;obtain⟨TK,HR4,HB4,HMB⟩:=au hm4 hr4 ER hBm;clear hm4 hr4 ER hBm;clear hbm hzm Tc HR3 HB3
 by_cases hk0:k=0
 rotate_left
 ·have hk1:(k !=0)=true:=by simp[hk0]
  have hx:E=(pJ,[⟨⟨#[]⟩,1⟩],0):=by rw[←HE.out,sN HZ.out (by rw[HRR.out];exact hk0)]
  subst hx;have hr4:=HR4.out;have z0:=fun o=>(hr4.alloc o).at_ 0 _ rfl
  have z1:=fun o=>(hr4.alloc o).at_ 1 _ rfl
  have f0:=fun o=>(hr4.alloc o).free 0
  have f1:=fun o=>(hr4.alloc o).free 1
  have x1:=fun o u=>((hr4.put 0 u).alloc o).at_ 1 _ rfl
  have g1:=fun o u=>((hr4.put 0 u).alloc o).free 1
  have y0:=fun o u u'=>(((hr4.put 0 u).put 1 u').alloc o).at_ 0 _ rfl
  have y1:=fun o u u'=>(((hr4.put 0 u).put 1 u').alloc o).at_ 1 _ rfl
  have hlt:=hr4.lt;have hne:W4.heap.size≠W.heap.size:=by omega
  have F6:=Box.made W4 53 #[.string ⟨#[]⟩,.int .i64 1];have hb5:Below W.heap.size W (W4.alloc (.cells #[.string ⟨#[]⟩,.int .i64 1] 53)):=HB4.out.alloc HB4.out.size _;obtain⟨kG,HW5⟩:=aj F6 hb5;clear F6 hb5;clear hk0 hr4;go_wp2_with fail;refine bodyPost_ret (v:=.tuple #[.agg #[.slice none 0 0,.slice none 0 0],.slice (some ⟨W4.heap.size,0,none⟩) 1 1,.int .i64 0]) (by simp[results,results17,go_sem,y0,y1]) rfl ?_;obtain⟨X,hX⟩:∃X,(W4.setCell ⟨W.heap.size,0,none⟩ (.slice none 0 0)).setCell ⟨W.heap.size,1,none⟩ (.slice none 0 0)=X:=⟨_,rfl⟩;have hXs:X.heap.size=W4.heap.size:=by rw[←hX];simp only[size_set]
  have hXb:Below W.heap.size W X:=by rw[←hX];exact(HB4.out.setCell (aJ _) _).setCell (aJ _) _
  have hXd:=Box.made X 53 #[.string ⟨#[]⟩,.int .i64 1];rw[hXs]at hXd;rw[hX];refine⟨[.slice none 0 0,.slice none 0 0],.slice (some ⟨W4.heap.size,0,none⟩) 1 1,rfl,hXb.alloc hXb.size _,⟨_,_,rfl,SliceOf.nil_,SliceOf.nil_⟩,?_⟩;exact KA hXd fP ⟨by decide,by decide⟩ ⟨by omega,by simp only[World.size_alloc];omega⟩
 subst hk0;have hx:E=(lY m l,gZ m l m.funcs.length,0):=by rw[←HE.out,EF HZ.out (by rw[HRR.out]),HRR.out]
 subst hx;have hfg:=zT TN.out HZ.out;have hsf:=fun U (hU:Below W.heap.size W U) (hm:aN U (old U.heap.size) [.slice U1 m.uses.length u1,.slice T1 m.types.length t1,.slice X1 m.funcs.length x1] m)=>Yf m l TN.out HZ.out _ (.slice L1 l.length l1) U hm (bK aU.stays HL.out hU)
 have hat:=fun U (hU:Below W.heap.size W U) (hm:aN U (old U.heap.size) [.slice U1 m.uses.length u1,.slice T1 m.types.length t1,.slice X1 m.funcs.length x1] m)=>I8 m l TN.out HZ.out _ (.slice L1 l.length l1) U hm (bK aU.stays HL.out hU)
 have hau:=fun U (hU:Below W.heap.size W U) (hm:aN U (old U.heap.size) [.slice U1 m.uses.length u1,.slice T1 m.types.length t1,.slice X1 m.funcs.length x1] m)=>VY m l _ (.slice L1 l.length l1) _ _ U eF eF hm (bK aU.stays HL.out hU) (Ve TN.out).1
 have ng:=gJ TN.out;have hub:(mQ m l++pU m l).length≤48:=by have:=tK (l:=l) (k:=0) TN.out (Nat.zero_le _);rwa [yR]at this
 have hwl:=fun k hk=>tK (l:=l) (k:=k) TN.out hk
 have hwz:=yR (m:=m) (l:=l);have QZ:=HMB.out;have p0:=QZ.at_ 0 _ rfl;have p1:=QZ.at_ 1 _ rfl;have p2:=QZ.at_ 2 _ rfl;obtain⟨HSF,HAT,HAU,HFG,HUB,HWL,HWZ⟩:=aB hsf hat hau hfg hub hwl hwz;clear hsf hat hau hfg hub hwl hwz;clear QZ;go_wp2_with fail;refine(HSF.out _ HB4.out TK.out).mono ?_;rintro e W5 ⟨cs,v5,rfl,hb5,hf5,hs5⟩;obtain⟨A5,a5,B5,b5,rfl⟩:=bD.form hf5;obtain⟨S5,s5,rfl,_⟩:=hs5.form;have jM:=HR4.out.later hb5 HR4.out.lt;have adO:=HMB.out.later hb5 HMB.out.lt;have ES:=HB4.out.trans (hb5.mono HB4.out.size);have uJ:=dI aN.stays TK.out hb5;obtain⟨O,hO⟩:∃z,lY m l=z:=⟨_,rfl⟩;rw[hO]at hf5⊢;have hw5:=hb5.size;obtain⟨Gj,XL,kG,Gi,yS,HOO⟩:=aA jM adO ES uJ hf5 hO;clear jM adO ES uJ hf5 hO;clear hb5 hs5 HR4 HMB HB4 TK p0 p1 p2;go_upto_region 8 with fail
 have Di:=Box.made W5 42 #[.slice A5 O.types.length a5,.slice B5 O.funcs.length b5];have ni:Below W5.heap.size W5 (W5.alloc (.cells #[.slice A5 O.types.length a5,.slice B5 O.funcs.length b5] 42)):=by go_grown
 have Iu:(W5.alloc (.cells #[.slice A5 O.types.length a5,.slice B5 O.funcs.length b5] 42)).heap.size=W5.heap.size+1:=by simp
 generalize W5.alloc (.cells #[.slice A5 O.types.length a5,.slice B5 O.funcs.length b5] 42)=W6 at Di ni Iu⊢;have rF:=Gj.out.later ni Gj.out.lt;have KZ:=XL.out.later ni XL.out.lt;have Dl:=kG.out.trans (ni.mono kG.out.size);have F9:=dI aN.stays Gi.out ni;have Ae:=bD.stays.later yS.out ni cZ;have hw6:=ni.size;obtain⟨q,hq⟩:∃q,W5.heap.size=q:=⟨_,rfl⟩;rw[hq]at Di⊢;have p0:=KZ.at_ 0 _ rfl;have p1:=KZ.at_ 1 _ rfl;have p2:=KZ.at_ 2 _ rfl;obtain⟨Zt,TL,kH,HM6,HF6,uq,HQ⟩:=aB rF KZ Dl F9 Ae Di hq;clear rF KZ Dl F9 Ae Di hq;clear ni Iu Gj XL kG Gi yS;have afx:=Zt.out.lt;go_wp2_with fail;refine(HAU.out _ kH.out HM6.out).mono ?_;rintro e W7 ⟨v7,rfl,hb7,_,Jj⟩;obtain⟨A8,a8,rfl,_⟩:=Jj.form;have La:=TL.out.later hb7 TL.out.lt;have KU:=kH.out.trans (hb7.mono kH.out.size);have QX:=dI aN.stays HM6.out hb7;have hw7:=hb7.size;clear p0 p1 p2;have p0:=La.at_ 0 _ rfl;have p1:=La.at_ 1 _ rfl;have p2:=La.at_ 2 _ rfl;obtain⟨aaD,zD,HM7,BQ,ajd⟩:=ay La KU QX Jj hb7;clear La KU QX Jj hb7;go_wp2_with fail;refine(HAT.out _ zD.out HM7.out).mono ?_;rintro e W8 ⟨v8,b8,rfl,hb8,hs8,ht8⟩;obtain⟨S8,s8,rfl,_⟩:=hs8.form;obtain⟨D7,d7,rfl,_⟩:=ht8.form;have kY:=aZ.below bn.stays BQ.out hb8;have akH:=ajd.out.trans (hb8.mono (by omega));have hw8:=hb8.size;have PK:∀k,(Value.slice A8 (mQ m l).length a8).ownBlock=some k→k<W7.heap.size:=fun k hk=>(BQ.out.row hk).2
 have hG8:∀k,fresh W7.heap.size W8.heap.size k→k<W8.heap.size∧some k≠(Value.slice A8 (mQ m l).length a8).ownBlock:=fun k hk=>⟨hk.2,fun e=>by have:=PK k e.symm;have:=hk.1;omega⟩
 have Yx:=HUB.out;rw[List.length_append]at Yx;obtain⟨Gg,vU,HT8,wI,XW,agc⟩:=aA akH kY ht8 hG8 Yx PK;clear akH kY ht8 hG8 Yx PK;clear hb8 hs8 aaD zD HM7 BQ ajd p0 p1 p2;go_wp2_with(at_builtin;go_must((refine xG (F:=none_) (l:=mQ m l) bn.stays (O6 (w:=W8) (F:=fresh W7.heap.size W8.heap.size)) (.agg #[.string ⟨#[]⟩,.int .i64 0]) _ _ 43 rfl rfl underlying43 (bytes:=24) (by kernel_rfl) vU.out rfl rfl (by decide) rfl HT8.out wI.out (by have:=XW.out;unfold maxLen;omega) (by have:=XW.out;omega) (by have:=XW.out;omega) ?_);(intro A9 c9 W9 qA hgr _;have oZ:=Gg.out.trans (hgr.below (B:=W6.heap.size) (aJ _) Gg.out.size);have HB9:=Lib.hid oZ;have zn:=Lib.hid qA;clear qA hgr oZ)));have qA:=zn.out;rw[←List.length_append,←HWZ.out]at qA;have hlz:(mQ m l).length+(pU m l).length=(gZ m l 0).length:=by rw[HWZ.out,List.length_append]
 rw[hlz];have acE:=ah qA;clear qA;clear zn hlz;go_loopg [12,15,16] m.funcs.length (fun gg s12 s15 _ wr=>∃(kk n c:Nat) (A:Option Addr),kk≤m.funcs.length∧m.funcs.length-kk≤gg∧s15=.int .i64 kk∧s12=.slice A n c∧Aside (n=(gZ m l kk).length)∧Aside (aZ bn 2 53 W6.heap.size wr (fresh W7.heap.size W8.heap.size) (.slice A n c) (gZ m l kk))∧Aside (Below W6.heap.size W6 wr))
 case atStart=>exact⟨0,_,c9,A9,Nat.zero_le _,by omega,rfl,rfl,aside rfl,aside (aZ.wider bn.stays acE.out (fun k hk=>hk.elim (fun h=>h.elim) id) (fun k hk=>acE.out.foot (.inr hk))),aside HB9.out⟩
 case round=>
  obtain⟨kk,n,c,A,hkk,hg,rfl,rfl,hn,hO,BW⟩:=hrel;obtain⟨wo,rfl⟩:∃W,W=wr:=⟨_,rfl⟩;have hmb:=TL.out.later BW.out TL.out.lt;have hob:=uq.out.later BW.out uq.out.lt;have hmo:=dI aN.stays HM6.out BW.out;have hwo:=BW.out.size
  by_cases hlt:kk<m.funcs.length
  ·have hltz:(kk:Int)<(m.funcs.length:Int):=by omega
   obtain⟨_,_,_,_,_,_,hcs2,_,_,hfs⟩:=aN.form hmo;simp only[List.cons.injEq,and_true]at hcs2;obtain⟨hcu,hct,hcx⟩:=hcs2;rw[←hcx]at hfs;obtain⟨bf,off,cs,hX,jc,hcs,hfr,hcell⟩:=hfs.at_ (k:=kk) hlt;subst hX;have hfx:=aK hlt;generalize m.funcs[kk]=f at hfx hfr;obtain⟨P1,p1,a,b,c',d,e,f',g,i,j,rfl,hfn,_,_,hfR,hfX⟩:=dF.form hfr;obtain⟨RA,rc,hRe⟩:=iD.form hfR;obtain⟨XA,xc,hXe⟩:=dN.form hfX;simp only[List.cons.injEq,and_true]at hRe hXe;obtain⟨rfl,rfl,rfl,rfl⟩:=hRe;obtain⟨rfl,rfl,rfl,rfl,rfl⟩:=hXe;clear hfR hfX;have hc0:=hcell 0 _ rfl;have hc1:=hcell 1 _ rfl;have hc2:=hcell 2 _ rfl;have hc3:=hcell 3 _ rfl;have hc4:=hcell 4 _ rfl;have hc5:=hcell 5 _ rfl;have hc6:=hcell 6 _ rfl;have QT:=hcell 7 _ rfl;have hc8:=hcell 8 _ rfl;have QU:=hcell 9 _ rfl;have xZ:=hcell 10 _ rfl;have yc:=hcell 11 _ rfl;simp only[Nat.add_zero]at hc0;have hbl:bf<wo.heap.size:=jc;have hlen:=HWL.out kk (by omega);have hcode:=Ko (m:=m) (l:=l) (own:=O) kk;obtain⟨C,hC⟩:∃z,oI m l O kk=z:=⟨_,rfl⟩;rw[hC]at hcode;have hwg:=fun h:C=0=>Nv (l:=l) hfx (by rw[HOO.out,hC];exact h)
   have hwb:=fun h:C≠0=>Qw (l:=l) hfx (by rw[HOO.out,hC];exact h)
   rw[HOO.out,hC]at hwb;obtain⟨HWG,HWB,HFN,HLEN,acv,HC,HMO,aaE,ae0⟩:=aF hwg hwb hfn hlen hcode hC hmo hmb hob;clear hwg hwb hfn hlen hcode hC hmo hmb hob;clear hcell hcs hfr hcu hct hcx hfs hfx;have hw1:=kH.out.trans (BW.out.mono kH.out.size);have adL:=bD.stays _ _ _ _ _ _ (bD.stays.later HF6.out BW.out (fun k hk=>by have:=hk.2;omega)) (fun k hk=>Nat.lt_of_lt_of_le (show k<W6.heap.size by have:=hk.2;omega) BW.out.size) (Keeps.refl _ _);have ni:=X5 m l O TN.out HZ.out kk _ (.slice L1 l.length l1) _ wo hlt HMO.out (bK aU.stays HL.out hw1) adL;rw[HC.out]at ni;have QY:=aaE.out;have NZ:=ae0.out;have p0:=QY.at_ 0 _ rfl;have p1:=QY.at_ 1 _ rfl;have p2:=QY.at_ 2 _ rfl;have o0:=NZ.at_ 0 _ rfl;have o1:=NZ.at_ 1 _ rfl;obtain⟨HBO,HB1,HO1,HC0⟩:=au ni BW hO hc0;clear ni BW hO hc0;clear QY NZ adL hw1 hc1 hc2 hc3 hc4 hc5 hc6 QT hc8 QU xZ yc;go_wp2_with fail;refine HBO.out.mono ?_;rintro e W2a ⟨rfl,hb2⟩;have hf2:=(hb2.cell (p:=⟨bf,off+kk*12,none⟩) hbl).trans HC0.out;have ah9:=aaE.out.later hb2 aaE.out.lt;have hbw2:=HB1.out.out.trans (hb2.mono HB1.out.out.size);have hO2:=aZ.below bn.stays HO1.out.out hb2;have hw2:=hbw2.size;clear p0 p1 p2 o0 o1;have p2:=ah9.at_ 2 _ rfl
   by_cases hC0:C=0
   ·subst hC0;have hnext:=HWG.out rfl;obtain⟨rZ,Qx,XM⟩:=ak hnext hbw2 hO2;clear hnext hbw2 hO2;clear hb2 hf2 ah9;go_wp2_with fail;go_roundg (m.funcs.length-(kk+1))
    case measure=>omega
    case rel=>exact⟨kk+1,n,c,A,by omega,by omega,by go_num,rfl,aside (by rw[rZ.out];exact hn.out),aside (by rw[rZ.out];exact XM.out),aside Qx.out⟩
   ·have hCz:(C !=0)=true:=by simp[hC0]
    have hnext:=HWB.out hC0;obtain⟨WL,hWL⟩:∃z,gZ m l kk=z:=⟨_,rfl⟩;rw[hWL]at hnext hO2;have hn':n=WL.length:=by rw[←hWL];exact hn.out
    subst hn';have aoa:WL.length≤48:=by rw[←hWL];exact HLEN.out
    have hci:=Uh acv.out;obtain⟨rZ,Qx,XM,XD⟩:=au hnext hbw2 hO2 hci;clear hnext hbw2 hO2 hci;clear hb2 hC0 ah9;go_wp2_with(at_builtin;go_must((refine bH bn.stays (.agg #[.string ⟨#[]⟩,.int .i64 0]) [.string f.name,.int .i64 C] ⟨f.name,C⟩ rfl rfl underlying43 (bytes:=24) (by kernel_rfl) XM.out rfl rfl (by decide) rfl rfl (show bn W2a none_ _ _ from⟨rfl,HFN.out,XD.out⟩) (lC (d:=⟨f.name,C⟩)) (fun k hk=>hk.elim) (by unfold maxLen;omega) (by omega) (by omega) ?_);(intro A3 c3 W3a hO3 hgr _;have hb3:=Qx.out.trans (hgr.below (B:=W6.heap.size) (aJ _) Qx.out.size);have HO3:=Lib.hid hO3;have HB3:=Lib.hid hb3;clear hO3 hgr hb3)));go_roundg (m.funcs.length-(kk+1))
    case measure=>omega
    case rel=>exact⟨kk+1,WL.length+1,c3,A3,by omega,by omega,by go_num,rfl,aside (by rw[rZ.out];simp),aside (by rw[rZ.out];exact aZ.wider bn.stays HO3.out (fun k hk=>hk.elim id (fun h=>h.elim)) (fun k hk=>HO3.out.foot (.inl hk))),aside HB3.out⟩
  ·have hltz:¬(kk:Int)<(m.funcs.length:Int):=by omega
   obtain rfl:kk=m.funcs.length:=by omega
   have hlen:=HWL.out _ (aJ _);have hrb:=Zt.out.later BW.out Zt.out.lt;have hn':=hn.out;subst hn';have hbase:W.heap.size≤W6.heap.size:=kH.out.size;have hrl:W.heap.size<W6.heap.size:=Zt.out.lt;have hsl:=hO.out.slice bn.stays (jZ:=24) (F':=fresh W6.heap.size wo.heap.size) (fun k hk=>⟨by have:=hk.1;omega,by have:=(hO.out.foot hk).1;omega⟩) (fun k h1 h2=>⟨by omega,h2⟩) (by omega) (by omega);have hfw:=bD.stays.later HF6.out BW.out (fun k hk=>by have:=hk.2;omega);have hbw:=kH.out.trans (BW.out.mono kH.out.size);have p2:=hmb.at_ 2 _ rfl;have o0:=hob.at_ 0 _ rfl;have o1:=hob.at_ 1 _ rfl;have x0:=hrb.at_ 0 _ rfl;have x1:=hrb.at_ 1 _ rfl;have g0:=hrb.free 0;have g1:=hrb.free 1;obtain⟨HSL,HFW,cO⟩:=ak hsl hfw hbw;clear hsl hfw hbw;clear hmb hob hrb hmo hO hn;go_wp2_with fail;refine bodyPost_ret (v:=.tuple #[.agg #[.slice A5 O.types.length a5,.slice B5 O.funcs.length b5],.slice A (gZ m l m.funcs.length).length c,.int .i64 0]) (by simp[results,results17,go_sem,x0,x1]) rfl ?_;have hno:¬fresh W4.heap.size W5.heap.size W.heap.size:=fun h=>by have:=h.1;omega
   have adP:¬fresh W6.heap.size wo.heap.size W.heap.size:=fun h=>by have:=h.1;omega
   refine⟨[.slice A5 O.types.length a5,.slice B5 O.funcs.length b5],_,rfl,(cO.out.setCell (aJ _) _).setCell (aJ _) _,?_,?_⟩
   ·dsimp only;rw[HOO.out];exact eH.wider bD.stays (bD.stays.set (bD.stays.set HFW.out (p:=⟨W.heap.size,0,none⟩) hno _) (p:=⟨W.heap.size,1,none⟩) hno _) (fun k hk=>⟨by have:=hk.1;omega,by simp only[size_set];have:=hk.2;omega⟩)
   ·exact SliceOf.stays bn.stays HSL.out (fun k hk=>⟨by have:=hk.1;omega,by simp only[size_set];exact hk.2⟩) (((Keeps.refl _ _).setCell (q:=⟨W.heap.size,0,none⟩) adP _).setCell (q:=⟨W.heap.size,1,none⟩) adP _)
end Go.Proofs.YtjaladhdnbhliaaGreatDoor
