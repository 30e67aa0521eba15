/- Parts. -/
import Derived.Test.YtjaladhdnbhliaaGreatDoorQVarsFitW
set_option maxHeartbeats 8000000
namespace Go.Proofs.YtjaladhdnbhliaaGreatDoor
open Go.Proofs.Tryz
open Go.RowKit Go.Shelf
theorem X9(s:ByteArray):fF (iq s []).1=0:=by
 have h:bG []=0:=rfl
 by_cases hr:(kF s).2=0
 ·rw[EF h hr];have hg:dD (kF s).1=0:=DW s;exact zT hg h
 ·rw[sN h hr];decide
theorem afV{w:World}{n:Nat}{t:TypeId}{F:aV}{s:ByteArray}(hB:Box w n t #[.string s])(hs:okS s)(hF:F n):SliceOf aY 1 16 w F (.slice (some ⟨n,0,none⟩) 1 1) [s]:=by
 refine⟨_,1,rfl,aJ _,by unfold maxLen;omega,by simp,by simp,fun _=>⟨n,0,rfl,hF,fun i x hi=>?_⟩⟩
 match i,hi with
 |0,hi=>
  obtain rfl:s=x:=by simpa using hi
  refine⟨[.string s],rfl,⟨rfl,hs⟩,fun j u hj=>?_⟩
  match j,hj with
  |0,hj=>cases hj;exact hB.at_ 0 _ rfl
 |i+1,hi=>simp at hi
set_option maxRecDepth 100000 in
theorem Es(c1:List Value)(x1:Raw)(nn:Int)(mx:Int)(W:World)(h1:aaI W (old W.heap.size) c1 x1)(_hn:I64 nn)(hT:Tabs W mx):
  Calls prog 8 #[.agg c1.toArray,.int .i64 nn] W fun e w'=>e=.returned (.bool true)∧Below W.heap.size W w':=by
 obtain⟨rfl,_,ha1,hb1,_⟩:=h1;have hk1:=fun U=>Dt x1 ha1 hb1 U
 have n1:=pO x1.a (many:=4) (by decide);have m1:=pO x1.b (many:=3) (by decide);generalize oP x1.a 4=n at*;generalize oP x1.b 3=k at*;have hs1:=fun U (hU:Below W.heap.size W U)=>swap_any n k pI mx U n1 m1 (by decide) (hT.later hU)
 have hch:=fun U (hU:Below W.heap.size W U)=>zN (J5 (N7 n k)) mx U (hT.later hU)
 obtain⟨_,hd,hta,htr,hfc,hfp,hfr⟩:=acZ n n1 k m1;have hgd:=X9 (J5 (N7 n k));have hiz:=(yM n n1 k m1).1;obtain⟨⟨E,D,z⟩,hE⟩:∃z,iq (J5 (N7 n k)) []=z:=⟨_,rfl⟩;simp only[hE]at hch;rw[hE]at hd hta htr hfc hfp hfr hgd;dsimp only at hd hta htr hfc hfp hfr hgd;obtain⟨hr1,hr2,_,_⟩:=oJ hgd;unfold N7 at hch hiz hta hfp hfr;obtain⟨I,hI⟩:∃z,swapT n k pI=z:=⟨_,rfl⟩;rw[hI]at hs1 hch hiz hta hfp hfr;unfold J5 at hch;unfold pI at hs1;obtain⟨K1,hK1⟩:∃z,xu n k=z:=⟨_,rfl⟩;rw[hK1]at hk1 hs1;have hft:=fun t U cs F (hF:∀k,F k→k<U.heap.size) (hf:bD U F cs E)=>EK E t cs F U hF hf hr1
 have Bh:=fun t U cs F (hF:∀k,F k→k<U.heap.size) (hf:bD U F cs E)=>EJ E t cs F U hF hf hr2
 have aft:=hft ⟨#[97]⟩;have afu:=hft ⟨#[114,49]⟩;have Bh:=Bh ⟨#[102,117,110]⟩;rw[hta]at aft;dsimp only at aft;rw[htr]at afu;rw[hfc]at Bh;obtain⟨z2,hz2⟩:∃z,(iO E.types ⟨#[114,49]⟩).1=z:=⟨_,rfl⟩;rw[hz2]at afu;obtain⟨S,hS⟩:∃z,kW E.funcs ⟨#[102,117,110]⟩=z:=⟨_,rfl⟩;rw[hS]at Bh hfp hfr;obtain⟨rk,ra,rb,rc⟩:=x1;dsimp only at*;have hIo:okS I:=by unfold okS;omega
 obtain⟨Ec,Jv,HCH,HD,aml,amm,TF,HFP,JJ,HIO⟩:=aG hk1 hs1 hch hd aft afu Bh hfp hfr hIo;clear hk1 hs1 hch hd aft afu Bh hfp hfr hIo;clear hT hE hI hK1 hta htr hfc hz2 hS hgd hr1 hr2 hft;go_enter func8,ntmps8;go_upto_region 1 with fail
 have hBr:=Box.made W 56 #[.int .i64 rk,.int .i64 ra,.int .i64 rb,.int .i64 rc];have hbr:Below W.heap.size W (W.alloc (.cells #[.int .i64 rk,.int .i64 ra,.int .i64 rb,.int .i64 rc] 56)):=by go_grown
 have kJ:(W.alloc (.cells #[.int .i64 rk,.int .i64 ra,.int .i64 rb,.int .i64 rc] 56)).heap.size=W.heap.size+1:=by simp
 generalize W.alloc (.cells #[.int .i64 rk,.int .i64 ra,.int .i64 rb,.int .i64 rc] 56)=W1 at hBr hbr kJ⊢;have x0:=hBr.at_ 0 _ rfl;have x1:=hBr.at_ 1 _ rfl;have x2:=hBr.at_ 2 _ rfl;have x3:=hBr.at_ 3 _ rfl;have HB:=ah hbr;clear hbr;clear kJ hBr;go_wp2_with fail;refine(Ec.out _).mono ?_;rintro e W2 ⟨rfl,hb2⟩;have hbw:=HB.out.trans (hb2.mono HB.out.size);clear x0 x1 x2 x3;have cO:=ah hbw;clear hbw;clear hb2;go_wp2_with fail;refine(Jv.out _ cO.out).mono ?_;rintro e W3 ⟨rfl,hb3⟩;have hbw:=cO.out.trans (hb3.mono cO.out.size);have fV:=ah hbw;clear hbw;clear hb3;have a0:¬9223372036854775807<20+I.size:=by omega
 have a1:¬9223372036854775807<20+I.size+128:=by omega
 go_wp2_with fail;refine(HCH.out _ fV.out).mono ?_;rintro e W3' ⟨T1,t1,T2,t2,D1,d1,rfl,hb4,hf4,hs4⟩;dsimp only;have hs4:=FD bn.stays hs4 cZ;have hf4:=DU bD.stays hf4 cZ;have hbw:=fV.out.trans (hb4.mono fV.out.size);obtain⟨acr,NI,HF3⟩:=ak hbw hs4 hf4;clear hbw hs4 hf4;clear hb4 HCH a0 a1;go_upto_region 3 with fail
 have yT:=Box.made W3' 42 #[.slice T1 E.types.length t1,.slice T2 E.funcs.length t2];have hbf:Below W3'.heap.size W3' ((W3').alloc (.cells #[.slice T1 E.types.length t1,.slice T2 E.funcs.length t2] 42)):=by go_grown
 have Jk:((W3').alloc (.cells #[.slice T1 E.types.length t1,.slice T2 E.funcs.length t2] 42)).heap.size=W3'.heap.size+1:=by simp
 generalize(W3').alloc (.cells #[.slice T1 E.types.length t1,.slice T2 E.funcs.length t2] 42)=W4 at yT hbf Jk⊢;have hs4:=bK bn.stays NI.out hbf;have hf4:=dI bD.stays HF3.out hbf;have hbw:=acr.out.trans (hbf.mono acr.out.size);have hbx:=yT;have x0:=yT.at_ 0 _ rfl;have x1:=yT.at_ 1 _ rfl;obtain⟨oq,pY,HF4,Ia⟩:=au hbx hbw hf4 hs4;clear hbx hbw hf4 hs4;clear hbf Jk yT acr NI HF3;go_wp2_with fail;refine(aml.out _ _ _ eF HF4.out).mono ?_;rintro e W5 ⟨rfl,hb5⟩;have afr:=oq.out.later hb5 oq.out.lt;have hf5:=dI bD.stays HF4.out hb5;have hs5:=bK bn.stays Ia.out hb5;have hbw:=pY.out.trans (hb5.mono pY.out.size);clear x0 x1;have x0:=afr.at_ 0 _ rfl;have x1:=afr.at_ 1 _ rfl;obtain⟨aeS,yS,F5,oh⟩:=au afr hf5 hs5 hbw;clear afr hf5 hs5 hbw;clear hb5 oq HF4 Ia;go_wp2_with fail;refine(amm.out _ _ _ eF yS.out).mono ?_;rintro e W6 ⟨rfl,hb6⟩;have afs:=aeS.out.later hb6 aeS.out.lt;have Ae:=dI bD.stays yS.out hb6;have hs6:=bK bn.stays F5.out hb6;have hbw:=oh.out.trans (hb6.mono oh.out.size);have h60:=afs.at_ 0 _ rfl;have h61:=afs.at_ 1 _ rfl;have afx:=afs.lt;clear x0 x1;have x0:=afs.at_ 0 _ rfl;have x1:=afs.at_ 1 _ rfl;obtain⟨HF6,Zu,BG⟩:=ak Ae hs6 hbw;clear Ae hs6 hbw;clear hb6 yS F5 afs;go_wp2_with fail;refine(TF.out _ _ _ eF HF6.out).mono ?_;rintro e W6' ⟨ds,rfl,hb7,hs7⟩;obtain⟨pv,rfl,_,_,hp7⟩:=hs7;obtain⟨P1,p1,rfl,_⟩:=hp7.form;have hp7:=FD aY.stays hp7 cZ;have hs7:=bK bn.stays Zu.out hb7;have hbw:=BG.out.trans (hb7.mono BG.out.size);clear x0 x1;obtain⟨HP6,ajY,acu⟩:=ak hp7 hs7 hbw;clear hp7 hs7 hbw
 clear hb7 TF HF6 Zu BG;go_upto_region 6 with fail
 have hBg:=Box.made W6' 62 #[.string S.name,.slice P1 S.params.length p1,.string S.result];have hbg:Below W6'.heap.size W6' ((W6').alloc (.cells #[.string S.name,.slice P1 S.params.length p1,.string S.result] 62)):=by go_grown
 have hzg:((W6').alloc (.cells #[.string S.name,.slice P1 S.params.length p1,.string S.result] 62)).heap.size=W6'.heap.size+1:=by simp
 generalize(W6').alloc (.cells #[.string S.name,.slice P1 S.params.length p1,.string S.result] 62)=W7 at hBg hbg hzg⊢;have hbx:=hBg;have hbw:=acu.out.trans (hbg.mono acu.out.size);have hs7:=bK bn.stays ajY.out hbg;have hp7:=bK aY.stays HP6.out hbg;clear hBg hbg hzg acu ajY HP6;have hfr:=JJ.out;rw[hfr]at hbx;have hie:(I.toList==I.toList)=true:=by simp
 have x1:=hbx.at_ 1 _ rfl;have x2:=hbx.at_ 2 _ rfl;have hbs:=hbx;obtain⟨agS,JI,Ti,HP7⟩:=au hbs hbw hs7 hp7;clear hbs hbw hs7 hp7;clear hfr hbx;go_wp2_with fail;have Yl:=Box.made W7 9 #[.string I];have hbq:Below W7.heap.size W7 (W7.alloc (.cells #[.string I] 9)):=by go_grown
 have UM:(W7.alloc (.cells #[.string I] 9)).heap.size=W7.heap.size+1:=by simp
 generalize W7.alloc (.cells #[.string I] 9)=W8 at Yl hbq UM⊢;have hp8:=bK aY.stays HP7.out hbq;have hs8:=bK bn.stays Ti.out hbq;have akK:=agS.out.later hbq agS.out.lt;have hbw:=JI.out.trans (hbq.mono JI.out.size);have hEq:=Yd _ _ S.params [I] (old W8.heap.size) (old W8.heap.size) W8 eF eF hp8 (afV Yl HIO.out Yl.lt);rw[HFP.out]at hEq;clear x1 x2;obtain⟨XH,JV,ajh,ajj⟩:=au hEq hs8 hbw akK;clear hEq hs8 hbw akK;clear hp8 Yl hbq UM agS Ti HP7;refine XH.out.mono ?_;rintro e W9 ⟨rfl,oZ⟩;have akL:=ajj.out.later oZ ajj.out.lt;have hs9:=bK bn.stays JV.out oZ;have hbw:=ajh.out.trans (oZ.mono ajh.out.size);have x2:=akL.at_ 2 _ rfl;obtain⟨HS9,aji⟩:=aj hs9 hbw;clear hs9 hbw;clear oZ akL;go_wp2_with fail;have hBd:=Box.made W9 53 #[.string ⟨#[114,49]⟩,.int .i64 2,.string ⟨#[114,50]⟩,.int .i64 2,.string ⟨#[120]⟩,.int .i64 5,.string ⟨#[98]⟩,.int .i64 4,.string ⟨#[98,97,100]⟩,.int .i64 2,.string ⟨#[103,111,110,101]⟩,.int .i64 5];have hbd:Below W9.heap.size W9 (W9.alloc (.cells #[.string ⟨#[114,49]⟩,.int .i64 2,.string ⟨#[114,50]⟩,.int .i64 2,.string ⟨#[120]⟩,.int .i64 5,.string ⟨#[98]⟩,.int .i64 4,.string ⟨#[98,97,100]⟩,.int .i64 2,.string ⟨#[103,111,110,101]⟩,.int .i64 5] 53)):=by go_grown
 have hzd:(W9.alloc (.cells #[.string ⟨#[114,49]⟩,.int .i64 2,.string ⟨#[114,50]⟩,.int .i64 2,.string ⟨#[120]⟩,.int .i64 5,.string ⟨#[98]⟩,.int .i64 4,.string ⟨#[98,97,100]⟩,.int .i64 2,.string ⟨#[103,111,110,101]⟩,.int .i64 5] 53)).heap.size=W9.heap.size+1:=by simp
 generalize W9.alloc (.cells #[.string ⟨#[114,49]⟩,.int .i64 2,.string ⟨#[114,50]⟩,.int .i64 2,.string ⟨#[120]⟩,.int .i64 5,.string ⟨#[98]⟩,.int .i64 4,.string ⟨#[98,97,100]⟩,.int .i64 2,.string ⟨#[103,111,110,101]⟩,.int .i64 5] 53)=su at hBd hbd hzd⊢;have hs10:=bK bn.stays HS9.out hbd;have hbw:=aji.out.trans (hbd.mono aji.out.size);have hE:=zS _ _ D ae8 (old su.heap.size) (old su.heap.size) su eF eF hs10 (Gw ae8 hBd (by unfold ae8;intro x hx;simp only[List.mem_cons,List.not_mem_nil,or_false]at hx;rcases hx with rfl|rfl|rfl|rfl|rfl|rfl<;>exact⟨by unfold okS;decide,by decide,by decide⟩) hBd.lt (by decide));rw[HD.out]at hE;obtain⟨afY,HE⟩:=aj hbw hE;clear hbw hE;clear hBd hbd hzd hs10;refine HE.out.mono ?_;rintro e W11 ⟨rfl,anW⟩;go_wp2_with fail;go_ret;exact⟨rfl,afY.out.trans (anW.mono afY.out.size)⟩
end Go.Proofs.YtjaladhdnbhliaaGreatDoor
