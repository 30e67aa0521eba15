/- Parts. -/
import Derived.Test.YtjaladhdnbhliaaGreatDoorQTreeChk2
import Derived.Test.YtjaladhdnbhliaaGreatDoorQFaceFind
set_option maxHeartbeats 8000000
set_option maxRecDepth 100000
namespace Go.Proofs.YtjaladhdnbhliaaGreatDoor
open Go.Proofs.Tryz
open Go.RowKit Go.Shelf
theorem afh(x:Func)(cs:List Value)(F:aV)(w:World)(hF:∀k,F k→k<w.heap.size)(hx:dF w F cs x):
  Calls prog 73 #[.agg cs.toArray] w fun e w'=>e=wX (jg x)∧Below w.heap.size w w':=by
 obtain⟨P1,p1,a,b,c,d,t,f,g,i,j,rfl,hn,hv,hp,hr,hb⟩:=dF.form hx;obtain⟨E,hE⟩:∃E,jg x=E:=⟨_,rfl⟩;rw[hE];obtain⟨_,_,_,_,_,hpl,_⟩:=hp.form;have hty:=fun U (hU:Below w.heap.size w U)=>Ls 10 x.result 1 [a,b,c,d] F U (by omega) (by omega) (iD.stays w U F F _ _ hr (fun _ h=>h) (Keeps.of_below hU hF)) (bg hF hU)
 have hex:=fun U (hU:Below w.heap.size w U)=>adk 10 x.body 1 [t,f,g,i,j] F U (by omega) (by omega) (dN.stays w U F F _ _ hb (fun _ h=>h) (Keeps.of_below hU hF)) (bg hF hU)
 have hnm:=fun W=>iV x.name W hn
 have hvm:=fun W=>iV x.dH W hv
 obtain⟨z1,hz1⟩:∃z,(aX x.name)=z:=⟨_,rfl⟩;rw[hz1]at hnm;have Z1:=Lib.hid hz1;clear hz1;obtain⟨z2,hz2⟩:∃z,(aX x.dH)=z:=⟨_,rfl⟩;rw[hz2]at hvm;have Z2:=Lib.hid hz2;clear hz2;obtain⟨z3,hz3⟩:∃z,(dn 10 x.result)=z:=⟨_,rfl⟩;rw[hz3]at hty;have Z3:=Lib.hid hz3;clear hz3;obtain⟨z4,Ir⟩:∃z,(iE 10 x.body)=z:=⟨_,rfl⟩;rw[Ir]at hex;have Z4:=Lib.hid Ir;clear Ir;obtain⟨HE,HN,HV,XV,HEX,HP⟩:=aA hE hnm hvm hty hex hp;clear hE hnm hvm hty hex hp;clear hr hb hx;go_enter func73,ntmps73;go_upto_region 1 with fail
 have hBb:=Box.made w 83 #[.string x.name,.string x.dH,.slice P1 x.params.length p1,a,b,c,d,t,f,g,i,j];have hbb:Below w.heap.size w (w.alloc (.cells #[.string x.name,.string x.dH,.slice P1 x.params.length p1,a,b,c,d,t,f,g,i,j] 83)):=by go_grown
 have hzb:(w.alloc (.cells #[.string x.name,.string x.dH,.slice P1 x.params.length p1,a,b,c,d,t,f,g,i,j] 83)).heap.size=w.heap.size+1:=by simp
 generalize w.alloc (.cells #[.string x.name,.string x.dH,.slice P1 x.params.length p1,a,b,c,d,t,f,g,i,j] 83)=W1 at hBb hbb hzb⊢;have x0:=hBb.at_ 0 _ rfl;have x1:=hBb.at_ 1 _ rfl;obtain⟨HB,Hb0,Hz⟩:=ak hBb hbb hzb;clear hBb hbb hzb;go_cut [] (fun wc=>Aside (Below W1.heap.size W1 wc)∧Aside (¬(aX x.name=false∨(x.dH.size≠0∧aX x.dH=false))))
 case first=>
  go_wp2_with fail;refine(HN.out _).mono ?_;rintro e W2 ⟨rfl,hb2⟩;have hB2:=HB.out.later hb2 HB.out.lt;clear x0 x1;have x1:=hB2.at_ 1 _ rfl;obtain⟨HB2,cO⟩:=aj hB2 hb2;clear hB2 hb2;cases z1 with
  |false=>
   go_wp2_with(first|(go_at_call 71;(with_reducible refine(bF _ _).mono ?_);rintro e w' ⟨rfl,rfl⟩)|(go_at_call 71;(with_reducible refine(bQ _ _).mono ?_);rintro e w' ⟨rfl,rfl⟩));refine⟨rfl,?_,Hb0.out.trans (cO.out.mono Hb0.out.size)⟩;rw[←HE.out,zW (.inl Z1.out)];rfl
  |true=>
   cases hq:x.dH.toList.isEmpty with
   |true=>
    go_wp2_with(first|(go_at_call 71;(with_reducible refine(bF _ _).mono ?_);rintro e w' ⟨rfl,rfl⟩)|(go_at_call 71;(with_reducible refine(bQ _ _).mono ?_);rintro e w' ⟨rfl,rfl⟩));rw[bC,decide_eq_true_eq]at hq;go_meet;exact⟨aside cO.out,aside (fun h=>h.elim (fun h=>by rw[Z1.out]at h;cases h) fun h=>h.1 hq)⟩
   |false=>
    go_wp2_with(first|(go_at_call 71;(with_reducible refine(bF _ _).mono ?_);rintro e w' ⟨rfl,rfl⟩)|(go_at_call 71;(with_reducible refine(bQ _ _).mono ?_);rintro e w' ⟨rfl,rfl⟩));refine(HV.out _).mono ?_;rintro e W3 ⟨rfl,hb3⟩;have HB3:=Lib.hid (cO.out.trans (hb3.mono cO.out.size));clear hb3;rw[bC,decide_eq_false_iff_not]at hq;have HQ:=ah hq;clear hq;cases z2 with
    |false=>
     go_wp2_with(first|(go_at_call 71;(with_reducible refine(bF _ _).mono ?_);rintro e w' ⟨rfl,rfl⟩)|(go_at_call 71;(with_reducible refine(bQ _ _).mono ?_);rintro e w' ⟨rfl,rfl⟩));refine⟨rfl,?_,Hb0.out.trans (HB3.out.mono Hb0.out.size)⟩;rw[←HE.out,zW (.inr ⟨HQ.out,Z2.out⟩)];rfl
    |true=>
     go_wp2_with(first|(go_at_call 71;(with_reducible refine(bF _ _).mono ?_);rintro e w' ⟨rfl,rfl⟩)|(go_at_call 71;(with_reducible refine(bQ _ _).mono ?_);rintro e w' ⟨rfl,rfl⟩));go_meet;exact⟨aside HB3.out,aside (fun h=>h.elim (fun h=>by rw[Z1.out]at h;cases h) fun h=>by have:=h.2;rw[Z2.out]at this;cases this)⟩
 case rest=>
  obtain⟨hbc,hno⟩:=hcut;obtain⟨W2,rfl⟩:∃W,W=wc:=⟨_,rfl⟩;have hB2:=HB.out.later hbc.out HB.out.lt;clear x0 x1;have x2:=hB2.at_ 2 _ rfl;have hbw:=Hb0.out.trans (hbc.out.mono Hb0.out.size);have HNB:=ah hno.out;obtain⟨HB2,cO⟩:=aj hB2 hbw;clear hB2 hbw;clear hbc hno
  by_cases h8:8<x.params.length
  ·have h8z:((x.params.length:Int)≤8)=False:=by simp;omega
   go_wp2_with(first|(go_at_call 71;(with_reducible refine(bF _ _).mono ?_);rintro e w' ⟨rfl,rfl⟩)|(go_at_call 71;(with_reducible refine(bQ _ _).mono ?_);rintro e w' ⟨rfl,rfl⟩));exact⟨rfl,by rw[←HE.out,Il HNB.out h8];rfl,cO.out⟩
  ·have h8z:(x.params.length:Int)≤8:=by omega
   have H8:=ah h8;go_wp2_with(first|(go_at_call 71;(with_reducible refine(bF _ _).mono ?_);rintro e w' ⟨rfl,rfl⟩)|(go_at_call 71;(with_reducible refine(bQ _ _).mono ?_);rintro e w' ⟨rfl,rfl⟩));go_loopg [26] x.params.length (fun gg s26 wr=>∃kk:Nat,kk≤x.params.length∧x.params.length-kk≤gg∧s26=.int .i64 kk∧Aside (Below W2.heap.size W2 wr)∧Aside (∀j,j<kk→∀y,x.params[j]? =some y→fZ y=0))
   case atStart=>exact⟨0,Nat.zero_le _,by omega,rfl,Below.refl _ _,aside (fun j hj=>absurd hj (Nat.not_lt_zero _))⟩
   case round=>
    obtain⟨kk,hkk,hg,rfl,BW,Al⟩:=hrel;have hbw:=cO.out.trans (BW.out.mono cO.out.size)
    by_cases hlt:kk<x.params.length
    ·have hltz:(kk:Int)<(x.params.length:Int):=by omega
     obtain⟨b1,off,cs,rfl,jc,hcs,hr1,hcell⟩:=(HP.out.up aQ.stays hF hbw).at_ hlt;have hy:=aK hlt;generalize x.params[kk]=y at*;obtain⟨c1,c2,c3,c4,rfl,hyn,hyt⟩:=aQ.form hr1;obtain⟨A2,n2,hfm⟩:=iD.form hyt;simp only[List.cons.injEq,and_true]at hfm;obtain⟨rfl,rfl,rfl,rfl⟩:=hfm;have hc0:=hcell 0 _ rfl;have hc1:=hcell 1 _ rfl;have hc2:=hcell 2 _ rfl;have hc3:=hcell 3 _ rfl;have hc4:=hcell 4 _ rfl;simp only[Nat.add_zero]at hc0;have Lj:=fun U (hU:Below wr.heap.size wr U)=>Ls 10 y.dV 1 _ F U (by omega) (by omega) (iD.stays.later hyt hU (bg hF hbw)) (bg (bg hF hbw) hU)
     have hym:=fun W=>iV y.name W hyn
     obtain⟨z5,GR⟩:∃z,(aX y.name)=z:=⟨_,rfl⟩;rw[GR]at hym;have Z5:=Lib.hid GR;clear GR;obtain⟨z6,ET⟩:∃z,(dn 10 y.dV)=z:=⟨_,rfl⟩;rw[ET]at Lj;have Z6:=Lib.hid ET;clear ET;have hbl:=bg hF hbw _ jc;obtain⟨HY,uZ,Zx,BO⟩:=au hy Lj hym hbw;clear hy Lj hym hbw;clear hcell hr1 hyt hcs;go_upto_region 6 with fail
     have yT:=Box.made wr 78 #[.string y.name,.int .i64 y.dV.kind,.string y.dV.bT,.string y.dV.name,.slice A2 y.dV.args.length n2];have hbf:Below wr.heap.size wr (wr.alloc (.cells #[.string y.name,.int .i64 y.dV.kind,.string y.dV.bT,.string y.dV.name,.slice A2 y.dV.args.length n2] 78)):=by go_grown
     have Jk:(wr.alloc (.cells #[.string y.name,.int .i64 y.dV.kind,.string y.dV.bT,.string y.dV.name,.slice A2 y.dV.args.length n2] 78)).heap.size=wr.heap.size+1:=by simp
     generalize wr.alloc (.cells #[.string y.name,.int .i64 y.dV.kind,.string y.dV.bT,.string y.dV.name,.slice A2 y.dV.args.length n2] 78)=W3 at yT hbf Jk⊢;have n0:=yT.at_ 0 _ rfl;go_wp2_with fail;refine(Zx.out _).mono ?_;rintro e W4 ⟨rfl,hb4⟩;have hB4:=yT.later hb4 yT.lt;clear n0 hc0 hc1 hc2 hc3 hc4;have n1:=hB4.at_ 1 _ rfl;have n2:=hB4.at_ 2 _ rfl;have n3:=hB4.at_ 3 _ rfl;have n4:=hB4.at_ 4 _ rfl;have hb5:=hbf.trans (hb4.mono hbf.size);obtain⟨HB4,kG⟩:=aj hB4 hb5;clear hB4 hb5;clear yT hbf Jk hb4;cases z5 with
     |false=>
      go_wp2_with(first|(go_at_call 71;(with_reducible refine(bF _ _).mono ?_);rintro e w' ⟨rfl,rfl⟩)|(go_at_call 71;(with_reducible refine(bQ _ _).mono ?_);rintro e w' ⟨rfl,rfl⟩));refine⟨rfl,?_,BO.out.trans (kG.out.mono BO.out.size)⟩;rw[←HE.out,sO HNB.out H8.out (eP HY.out (qO Z5.out) (by decide) Al.out) (by decide)];rfl
     |true=>
      go_wp2_with(first|(go_at_call 71;(with_reducible refine(bF _ _).mono ?_);rintro e w' ⟨rfl,rfl⟩)|(go_at_call 71;(with_reducible refine(bQ _ _).mono ?_);rintro e w' ⟨rfl,rfl⟩));refine(uZ.out _ kG.out).mono ?_;rintro e W5 ⟨rfl,hb6⟩;have kH:=Lib.hid (kG.out.trans (hb6.mono kG.out.size));clear hb6
      by_cases hz0:z6=0
      ·subst hz0;rw[lZ];go_wp2_with fail;go_roundg (x.params.length-(kk+1))
       case measure=>omega
       case rel=>exact⟨kk+1,by omega,by omega,by go_num,aside (BW.out.trans (kH.out.mono BW.out.size)),aside (fO HY.out (jr Z5.out Z6.out) Al.out)⟩
      ·rw[iK hz0];go_wp2_with fail;refine⟨rfl,?_,BO.out.trans (kH.out.mono BO.out.size)⟩;rw[←HE.out,sO HNB.out H8.out (eP HY.out (jr Z5.out Z6.out) hz0 Al.out) hz0,iK hz0]
    ·have hltz:¬(kk:Int)<(x.params.length:Int):=by omega
     obtain rfl:kk=x.params.length:=by omega
     have hBr:=HB2.out.later BW.out HB2.out.lt;clear x2;have x3:=hBr.at_ 3 _ rfl;have x4:=hBr.at_ 4 _ rfl;have x5:=hBr.at_ 5 _ rfl;have x6:=hBr.at_ 6 _ rfl;have HPE:=Lib.hid (fM Al.out);obtain⟨Eb,BO⟩:=aj hBr hbw;clear hBr hbw;go_wp2_with fail;refine(XV.out _ BO.out).mono ?_;rintro e W5 ⟨rfl,hb1⟩;have F6:=Eb.out.later hb1 Eb.out.lt;clear x3 x4 x5 x6;have u7:=F6.at_ 7 _ rfl;have u8:=F6.at_ 8 _ rfl;have u9:=F6.at_ 9 _ rfl;have u10:=F6.at_ 10 _ rfl;have u11:=F6.at_ 11 _ rfl;have kG:=Lib.hid (BO.out.trans (hb1.mono BO.out.size));clear hb1 F6
     by_cases hz0:z3=0
     ·subst hz0;rw[lZ];go_wp2_with fail;refine(HEX.out _ kG.out).mono ?_;rintro e W6 ⟨rfl,hb2⟩;have kH:=Lib.hid (kG.out.trans (hb2.mono kG.out.size));clear hb2
      by_cases Ir:z4=0
      ·subst Ir;rw[lZ];go_wp2_with fail
       go_end0
       exact⟨by rw[←HE.out,zV HNB.out H8.out HPE.out Z3.out Z4.out];rfl,kH.out⟩
      ·rw[iK Ir];go_wp2_with fail;exact⟨rfl,by rw[←HE.out,zV HNB.out H8.out HPE.out Z3.out Z4.out,iK Ir],kH.out⟩
     ·rw[iK hz0];go_wp2_with fail;exact⟨rfl,by rw[←HE.out,Cb HNB.out H8.out HPE.out Z3.out hz0,iK hz0],kG.out⟩
def FC:kR:=⟨⟨#[]⟩,[],⟨#[]⟩⟩
def kW(l:List kR)(t:ByteArray):kR:=(named kR.name l t).getD FC
def jR(l:List kR)(t:ByteArray):Int:=match named kR.name l t with|some _=>0|none=>6
theorem aa2(x:kR)(t:ByteArray)(cs:List Value)(F:aV)(w:World)(h:fB w F cs x):Calls prog 59 #[.agg cs.toArray,.string t] w fun e w'=>e=.returned (.int .i64 (Lib.compareBytes x.name.data.toList t.data.toList))∧Below w.heap.size w w':=by
 obtain⟨pv,rfl,_,_,hp⟩:=h;obtain⟨P1,p1,rfl,_⟩:=hp.form;have hc:=fun W=>Tryz.strings_Compare x.name t W
 generalize Lib.compareBytes x.name.data.toList t.data.toList=z at hc⊢;have HC:=ah hc;clear hc hp;go_enter func59,ntmps59;go_wp2_with(go_at_call 57;refine(HC.out _).mono ?_;rintro e w' ⟨rfl,rfl⟩);go_ret;exact⟨rfl,by go_grown⟩
theorem lJ{w:World}{F:aV}:fB w F [.string ⟨#[]⟩,.slice none 0 0,.string ⟨#[]⟩] FC:=⟨_,rfl,by show(0:Nat)≤_;omega,by show(0:Nat)≤_;omega,SliceOf.nil_⟩
theorem ac3{w:World}{n:Nat}{t:TypeId}{a b c:Value}(h:Box w n t #[a,b,c])(x y z:Value):Box (((w.setCell ⟨n,0,none⟩ x).setCell ⟨n,1,none⟩ y).setCell ⟨n,2,none⟩ z) n t #[x,y,z]:=by
 have:=((h.put 0 x).put 1 y).put 2 z;simpa using this
theorem PD(w:World)(n:Nat)(x y z:Value)(k:Nat)(hk:k≠n):(((w.setCell ⟨n,0,none⟩ x).setCell ⟨n,1,none⟩ y).setCell ⟨n,2,none⟩ z).heap[k]? =w.heap[k]? :=by
 rw[Below.heap_setCell _ _ _ _ hk,Below.heap_setCell _ _ _ _ hk,Below.heap_setCell _ _ _ _ hk]
theorem EJ(a:gU)(t:ByteArray)(cs:List Value)(F:aV)(w:World)(hF:∀k,F k→k<w.heap.size)(ha:bD w F cs a)(hR:nN kR.name a.funcs):
  Calls prog 26 #[.agg cs.toArray,.string t] w fun e w'=>∃ds:List Value,e=.returned (.tuple #[.agg ds.toArray,.int .i64 (jR a.funcs t)])∧Below w.heap.size w w'∧fB w' (fresh w.heap.size w'.heap.size) ds (kW a.funcs t):=by
 obtain⟨tv,fv,rfl,ht,hf⟩:=ha;have hs:=fun(U:World) (hU:Below w.heap.size w U)=>Vu fv a.funcs F t 59 #[] U (enters_of func59 (by kernel_rfl) rfl) (bg hF hU) (hf.up fB.stays hF hU)
  (fun W x cs _ _ hx=>aa2 x t cs F W hx)
 obtain⟨A1,c1,rfl,_,_,hl1,_⟩:=ht.form;obtain⟨A3,c3,rfl,_,_,hl3,_⟩:=hf.form;obtain⟨E1,hE1⟩:∃E,kW a.funcs t=E:=⟨_,rfl⟩;obtain⟨E2,hE2⟩:∃E,jR a.funcs t=E:=⟨_,rfl⟩;rw[hE1,hE2];obtain⟨HS,vk,HE2,HR⟩:=au hs hE1 hE2 hR;clear hs hE1 hE2 hR ht;go_enter func26,ntmps26;go_wp2_with fail;have hB:=(Box.made w 42 #[.slice A1 a.types.length c1,.slice A3 a.funcs.length c3]).alloc (.cells #[.string ⟨#[]⟩,.slice none 0 0,.string ⟨#[]⟩] 62);have hC:=Box.made (w.alloc (.cells #[.slice A1 a.types.length c1,.slice A3 a.funcs.length c3] 42)) 62 #[.string ⟨#[]⟩,.slice none 0 0,.string ⟨#[]⟩];have hsz:(w.alloc (.cells #[.slice A1 a.types.length c1,.slice A3 a.funcs.length c3] 42)).heap.size=w.heap.size+1:=by simp
 rw[hsz]at hC;have hb0:Below w.heap.size w ((w.alloc (.cells #[.slice A1 a.types.length c1,.slice A3 a.funcs.length c3] 42)).alloc (.cells #[.string ⟨#[]⟩,.slice none 0 0,.string ⟨#[]⟩] 62)):=by go_grown
 generalize(w.alloc (.cells #[.slice A1 a.types.length c1,.slice A3 a.funcs.length c3] 42)).alloc (.cells #[.string ⟨#[]⟩,.slice none 0 0,.string ⟨#[]⟩] 62)=W2 at hB hC hb0⊢;refine(HS.out _ hb0).mono ?_;rintro e w' ⟨i,hP,rfl,hb⟩;have hB1:=hB.later hb hB.lt;have hC1:=hC.later hb hC.lt;have hb1:=hb0.trans (hb.mono hb0.size);have a1:=hB1.at_ 1 _ rfl;have r0:=hC1.at_ 0 _ rfl;have r1:=hC1.at_ 1 _ rfl;have r2:=hC1.at_ 2 _ rfl;have q0:=hC1.free 0;have q1:=hC1.free 1;have q2:=hC1.free 2;have hlt1:=hC1.lt;obtain⟨HB,Jb,HB1⟩:=ak hb1 hC1 hB1;cases hh:Ji kR.name a.funcs t i with
 |false=>
  have hn:=hP.miss HR.out (KX hh);have h1:=vk.out;have h2:=HE2.out;unfold kW at h1;unfold jR at h2;rw[hn]at h1 h2;simp only[Option.getD_none]at h1 h2;subst h1;subst h2;have hfin:∀W',W'=((w'.setCell ⟨w.heap.size+1,0,none⟩ (.string ⟨#[]⟩)).setCell ⟨w.heap.size+1,1,none⟩ (.slice none 0 0)).setCell ⟨w.heap.size+1,2,none⟩ (.string ⟨#[]⟩)→Below w.heap.size w W':=by
   rintro W' rfl;exact((hb1.setCell (by simp) _).setCell (by simp) _).setCell (by simp) _
  have HFin:=ah hfin;clear hb hb0 hb1 hB hB1 hC hC1 hh hP hn hf hfin;go_wp2_with fail;exact bodyPost_ret (v:=.tuple #[.agg #[.string ⟨#[]⟩,.slice none 0 0,.string ⟨#[]⟩],.int .i64 6]) (by simp[results,results26,go_sem,r0,r1,r2]) rfl ⟨_,rfl,HFin.out _ rfl,lJ⟩
 |true=>
  obtain⟨x,hx,hd⟩:=PI hh;have hn:=hP.hit HR.out hx hd;have h1:=vk.out;have h2:=HE2.out;unfold kW at h1;unfold jR at h2;rw[hn]at h1 h2;simp only[Option.getD_some]at h1 h2;subst h1;subst h2;have hil:=(List.getElem?_eq_some_iff.1 hx).1;have an6:(i:Int)<(a.funcs.length:Int):=by omega
  obtain⟨b1,off,cs,rfl,_,_,hr,hcell⟩:=(hf.up fB.stays hF hb1).at_ hil;rw[(List.getElem?_eq_some_iff.1 hx).2]at hr;obtain⟨pv,rfl,hn1,hn2,hpv⟩:=hr;obtain⟨P1,p1,rfl,_,_,hpl,_⟩:=hpv.form;have hc0:=hcell 0 _ rfl;have hc1:=hcell 1 _ rfl;have hc2:=hcell 2 _ rfl;simp only[Nat.add_zero]at hc0;have hFw:=bg hF hb1;have hcl:=fun(U:World) (hU:Below w'.heap.size w' U)=>Ku (.slice P1 x.params.length p1) x.params F U (hpv.up aY.stays hFw hU) (bg hFw hU)
  have HCl:=ah hcl;clear hb hb0 hb1 hB hB1 hC hC1 hh hP hn hf hcell hcl hpv hx hd;go_wp2_with fail;have hD:=Box.made w' 62 #[.string x.name,.slice P1 x.params.length p1,.string x.result];have hC2:=Jb.out.alloc (.cells #[.string x.name,.slice P1 x.params.length p1,.string x.result] 62);have hbx:Below w'.heap.size w' (w'.alloc (.cells #[.string x.name,.slice P1 x.params.length p1,.string x.result] 62)):=by go_grown
  have aok:(w'.alloc (.cells #[.string x.name,.slice P1 x.params.length p1,.string x.result] 62)).heap.size=w'.heap.size+1:=by simp
  generalize w'.alloc (.cells #[.string x.name,.slice P1 x.params.length p1,.string x.result] 62)=Wx at hD hC2 hbx aok⊢;refine(HCl.out _ hbx).mono ?_;rintro e Wc ⟨pv',rfl,hbc,hpc⟩;obtain⟨Q1,s1,rfl,_,_,hql,_⟩:=hpc.form;have hD1:=hD.later hbc hD.lt;have hC3:=hC2.later hbc hC2.lt;have d0:=hD1.at_ 0 _ rfl;have d1:=hD1.at_ 1 _ rfl;have d2:=hD1.at_ 2 _ rfl;have f1:=hD1.free 1;have r0':=hC3.at_ 0 _ rfl;have r1':=hC3.at_ 1 _ rfl;have r2':=hC3.at_ 2 _ rfl;have q0':=hC3.free 0;have q1':=hC3.free 1;have q2':=hC3.free 2;have arb:=hbc.size;have hfin:∀W',W'=(((Wc.setCell ⟨w'.heap.size,1,none⟩ (.slice Q1 x.params.length s1)).setCell ⟨w.heap.size+1,0,none⟩ (.string x.name)).setCell ⟨w.heap.size+1,1,none⟩ (.slice Q1 x.params.length s1)).setCell ⟨w.heap.size+1,2,none⟩ (.string x.result)→
    Below w.heap.size w W'∧fB W' (fresh w.heap.size W'.heap.size) [.string x.name,.slice Q1 x.params.length s1,.string x.result] x:=by
   rintro W' rfl;have hs':((((Wc.setCell ⟨w'.heap.size,1,none⟩ (.slice Q1 x.params.length s1)).setCell ⟨w.heap.size+1,0,none⟩ (.string x.name)).setCell ⟨w.heap.size+1,1,none⟩ (.slice Q1 x.params.length s1)).setCell ⟨w.heap.size+1,2,none⟩ (.string x.result)).heap.size=Wc.heap.size:=by simp[World.setCell]
   have hbz:=HB.out.size;have hbw:Below w.heap.size w Wc:=HB.out.trans ((hbx.mono hbz).trans (hbc.mono (by omega)));refine⟨(((hbw.setCell (by simp;omega) _).setCell (by simp) _).setCell (by simp) _).setCell (by simp) _,_,rfl,hn1,hn2,?_⟩;refine hpc.stays aY.stays (fun k hk=>⟨by have:=hk.1;omega,by have:=hk.2;omega⟩) (kC fun k hk=>?_);have h6:=hk.1;rw[PD _ _ _ _ _ _ (by omega),Below.heap_setCell _ _ _ _ (by simp;omega)]
  have HFin:=ah hfin;clear hfin hD hD1 hC2 hC3 hbx hbc hpc;go_wp2_with fail;exact bodyPost_ret (v:=.tuple #[.agg #[.string x.name,.slice Q1 x.params.length s1,.string x.result],.int .i64 0]) (by simp[results,results26,go_sem,r0',r1',r2']) rfl ⟨_,rfl,(HFin.out _ rfl).1,(HFin.out _ rfl).2⟩
theorem Yh(a:gU)(t:ByteArray)(cs:List Value)(F:aV)(w:World)(hF:∀k,F k→k<w.heap.size)(ha:bD w F cs a):
  Calls prog 168 #[.agg cs.toArray,.string t] w fun e w'=>∃ds:List Value,e=.returned (.tuple #[.agg ds.toArray,.int .i64 (jR a.funcs t)])∧Below w.heap.size w w'∧fB w' F ds (kW a.funcs t):=by
 obtain⟨tv,fv,rfl,ht,hf⟩:=ha;obtain⟨A1,c1,rfl,_,_,hl1,_⟩:=ht.form;obtain⟨A3,c3,rfl,_,_,hl3,_⟩:=hf.form;obtain⟨E1,hE1⟩:∃E,kW a.funcs t=E:=⟨_,rfl⟩;obtain⟨E2,hE2⟩:∃E,jR a.funcs t=E:=⟨_,rfl⟩;rw[hE1,hE2];obtain⟨vk,HE2⟩:=aj hE1 hE2;clear hE1 hE2 ht;go_enter func168,ntmps168;go_wp2_with fail;have hB:=(Box.made w 42 #[.slice A1 a.types.length c1,.slice A3 a.funcs.length c3]).alloc (.cells #[.string ⟨#[]⟩,.slice none 0 0,.string ⟨#[]⟩] 62);have hC:=Box.made (w.alloc (.cells #[.slice A1 a.types.length c1,.slice A3 a.funcs.length c3] 42)) 62 #[.string ⟨#[]⟩,.slice none 0 0,.string ⟨#[]⟩];have hsz:(w.alloc (.cells #[.slice A1 a.types.length c1,.slice A3 a.funcs.length c3] 42)).heap.size=w.heap.size+1:=by simp
 rw[hsz]at hC;have hb0:Below w.heap.size w ((w.alloc (.cells #[.slice A1 a.types.length c1,.slice A3 a.funcs.length c3] 42)).alloc (.cells #[.string ⟨#[]⟩,.slice none 0 0,.string ⟨#[]⟩] 62)):=by go_grown
 generalize(w.alloc (.cells #[.slice A1 a.types.length c1,.slice A3 a.funcs.length c3] 42)).alloc (.cells #[.string ⟨#[]⟩,.slice none 0 0,.string ⟨#[]⟩] 62)=W1 at hB hC hb0⊢;have a1:=hB.at_ 1 _ rfl;have r0:=hC.at_ 0 _ rfl;have r1:=hC.at_ 1 _ rfl;have r2:=hC.at_ 2 _ rfl;have q0:=hC.free 0;have q1:=hC.free 1;have q2:=hC.free 2;have HB:=ah hb0;clear hB hC hb0;go_loopg [6] a.funcs.length (fun gg s6 wr=>∃kk:Nat,kk≤a.funcs.length∧a.funcs.length-kk≤gg∧s6=.int .i64 kk∧W1=wr∧Aside (∀j,j<kk→∀y,a.funcs[j]? =some y→decide (y.name=t)=false))
 case atStart=>exact⟨0,Nat.zero_le _,by omega,rfl,rfl,aside (fun j hj=>absurd hj (Nat.not_lt_zero _))⟩
 case round=>
  obtain⟨kk,hkk,hg,rfl,rfl,Al⟩:=hrel
  by_cases hlt:kk<a.funcs.length
  ·have hltz:(kk:Int)<(a.funcs.length:Int):=by omega
   obtain⟨b1,off,cs,rfl,jc,_,⟨pv,rfl,hn1,hn2,hpv⟩,hcell⟩:=(hf.up fB.stays hF HB.out).at_ hlt;obtain⟨P1,p1,rfl,_,_,hpl,_⟩:=hpv.form;have hc0:=hcell 0 _ rfl;have hc1:=hcell 1 _ rfl;have hc2:=hcell 2 _ rfl;simp only[Nat.add_zero]at hc0;have hx:=aK hlt;generalize a.funcs[kk]=x at*;obtain⟨HX,HPV⟩:=aj hx hpv;clear hx hcell hf hpv;cases hq:decide (x.name=t)with
   |true=>
    have hE:(x.name.toList==t.toList)=true:=by rw[str_eq];exact hq
    have hn:=Hf HX.out hq Al.out;have h1:=vk.out;have h2:=HE2.out;unfold kW at h1;unfold jR at h2;rw[hn]at h1 h2;simp only[Option.getD_some]at h1 h2;subst h1;subst h2;have hbn:b1≠w.heap.size+1:=fun e=>by have:=hF _ jc;omega
    have hfin:∀W',W'=((W1.setCell ⟨w.heap.size+1,0,none⟩ (.string x.name)).setCell ⟨w.heap.size+1,1,none⟩ (.slice P1 x.params.length p1)).setCell ⟨w.heap.size+1,2,none⟩ (.string x.result)→
      Below w.heap.size w W'∧fB W' F [.string x.name,.slice P1 x.params.length p1,.string x.result] x:=by
     rintro W' rfl;refine⟨((HB.out.setCell (by simp) _).setCell (by simp) _).setCell (by simp) _,_,rfl,hn1,hn2,?_⟩;exact HPV.out.stays aY.stays (fun _ h=>h) (kC fun k hk=>PD _ _ _ _ _ _ (by have:=hF k hk;omega))
    have HFin:=ah hfin;clear hq hn hfin;go_wp2_with fail;exact bodyPost_ret (v:=.tuple #[.agg #[.string x.name,.slice P1 x.params.length p1,.string x.result],.int .i64 0]) (by simp[results,results168,go_sem,r0,r1,r2]) rfl ⟨_,rfl,(HFin.out _ rfl).1,(HFin.out _ rfl).2⟩
   |false=>
    have hE:(x.name.toList==t.toList)=false:=by rw[str_eq];exact hq
    have HQ:=ah hq;clear hq;go_wp2_with fail;go_roundg (a.funcs.length-(kk+1))
    case measure=>omega
    case rel=>exact⟨kk+1,by omega,by omega,by go_num,rfl,aside (qG HX.out HQ.out Al.out)⟩
  ·have hltz:¬(kk:Int)<(a.funcs.length:Int):=by omega
   obtain rfl:kk=a.funcs.length:=by omega
   have hn:=DT Al.out;have h1:=vk.out;have h2:=HE2.out;unfold kW at h1;unfold jR at h2;rw[hn]at h1 h2;simp only[Option.getD_none]at h1 h2;subst h1;subst h2;have hfin:∀W',W'=((W1.setCell ⟨w.heap.size+1,0,none⟩ (.string ⟨#[]⟩)).setCell ⟨w.heap.size+1,1,none⟩ (.slice none 0 0)).setCell ⟨w.heap.size+1,2,none⟩ (.string ⟨#[]⟩)→Below w.heap.size w W':=by
    rintro W' rfl;exact((HB.out.setCell (by simp) _).setCell (by simp) _).setCell (by simp) _
   have HFin:=ah hfin;clear hn hf hfin;go_wp2_with fail;exact bodyPost_ret (v:=.tuple #[.agg #[.string ⟨#[]⟩,.slice none 0 0,.string ⟨#[]⟩],.int .i64 6]) (by simp[results,results168,go_sem,r0,r1,r2]) rfl ⟨_,rfl,HFin.out _ rfl,lJ⟩
end Go.Proofs.YtjaladhdnbhliaaGreatDoor
