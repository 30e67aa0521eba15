/- Parts. -/
import Derived.Test.YtjaladhdnbhliaaGreatDoorQEyeG
import Derived.Test.YtjaladhdnbhliaaGreatDoorQLineRead
set_option maxHeartbeats 8000000
set_option maxRecDepth 100000
namespace Go.Proofs.YtjaladhdnbhliaaGreatDoor
open Go.Proofs.Tryz
open Go.RowKit Go.Shelf
def ae6(bm B:Nat)(W:World)(r:Except Int Module)(en:Ending)(W':World):Prop:=
 ∃m' k,Ep W' bm B m'∧jK bm B W W'∧en=.returned (.int .i64 k)∧((k=0∧r=.ok m')∨(k≠0∧r=.error k))
def acU(R:Except Int Module)(T:List Token)(m':Module)(j:Nat)(e:Int):Prop:=(e=0→R=if(T.drop j).length=0 then .ok m' else .error 4)∧(e≠0→R=.error e)
theorem Rx{α:Type}{R:Except Int Module}{T:List Token}{i j:Nat}{e:Int}{p:Pr α}{x:α}{f:α→Module}(hR:R=(uQ p (T.drop i)).map fun a=>f a.1)(h:St (Rs p T i 0) (bJ x) T j e):acU R T (f x) j e:=by
 unfold Rs at h;rw[if_pos rfl]at h;rcases h with ⟨rfl,h⟩|⟨h0,h⟩
 ·refine⟨fun _=>?_,fun h=>absurd rfl h⟩;rw[hR,FI h];exact map_if
 ·refine⟨fun h=>absurd h h0,fun _=>?_⟩;rw[hR,ug h]
  rfl
theorem AP{b bm B i:Nat}{F:aV}{A:Option Addr}{c:Nat}{T:List Token}{W W8 W9:World}{j:Nat}{e d:Int}{o:Obj}{row:Option Nat}(u:Value)(hl:dB b F A c T W W8 j e d)(hg:Grew B (W8.alloc o) W9 row)(hrow:∀k,row=some k→k<b)(hBb:B≤b)(hbm:bm<B)(hbW:b<W.heap.size):
  jK bm B W (W9.setCell ⟨bm,i,none⟩ u)∧Box (W9.setCell ⟨bm,i,none⟩ u) b 204 #[.slice A T.length c,.int .i64 j,.int .i64 e,.int .i64 d]:=by
 have h1:jK bm B W W8:=jK.of_below (hl.grew.below (aJ _) (Nat.le_of_lt hbW)) hBb;have hs:W.heap.size≤W8.heap.size:=hl.size;have h2:jK bm B W8 W9:=(jK.of_below ((Below.refl _ W8).alloc (aJ _) o) (by omega)).trans (jK.aae hg (by rw[World.size_alloc];omega));have hB:=hl.box;refine⟨(h1.trans h2).set i u,?_⟩;have hB9:Box W9 b 204 #[.slice A T.length c,.int .i64 j,.int .i64 e,.int .i64 d]:=(hB.alloc o).of_heap (hg.block b (by rw[World.size_alloc];have:=hB.lt;omega) (fun e=>Nat.lt_irrefl _ (hrow b e.symm)));exact hB9.far (by show b≠bm;omega) u
def X3(W:World)(bm B:Nat)(m:Module)(b:Nat):Prop:=∃U T X cu ct cx Gt Gf,qg W bm B U T X cu ct cx m Gt Gf∧((Value.slice U m.uses.length cu).ownBlock≠some b∧(Value.slice T m.types.length ct).ownBlock≠some b∧(Value.slice X m.funcs.length cx).ownBlock≠some b)∧¬Gt b∧¬Gf b
theorem X3.touch{W W':World}{bm B:Nat}{m:Module}{b:Nat}(h:X3 W bm B m b)(hbm:b≠bm)(hg:Grew b W W' (some b))(hk:∀k,k<W.heap.size→k≠b→W'.heap[k]? =W.heap[k]?):Ep W' bm B m:=by
 obtain⟨U,T,X,cu,ct,cx,Gt,Gf,h,⟨h1,h2,h3⟩,h4,h5⟩:=h;exact⟨U,T,X,cu,ct,cx,Gt,Gf,h.box.of_heap (hk _ h.box.lt (fun e=>hbm e.symm)),h.us.kept aY.stays hg.size (fun k a c=>hk k a (fun e=>by subst e;exact c.elim (fun c=>c) (fun c=>h1 c))),
  h.ts.kept aQ.stays hg.size (fun k a c=>hk k a (fun e=>by subst e;exact c.elim (fun c=>h4 c) (fun c=>h2 c))),h.fs.kept dF.stays hg.size (fun k a c=>hk k a (fun e=>by subst e;exact c.elim (fun c=>h5 c) (fun c=>h3 c))),h.lo,h.ut,h.uf,h.tf,h.gu,h.gt,h.gf,h.low⟩
theorem RN{v v':Value}{b n:Nat}(hv:v'.ownBlock=v.ownBlock∨∃g,v'.ownBlock=some g∧n≤g)(h:∀k,v.ownBlock=some k→k<b)(hn:b<n):v'.ownBlock≠some b:=fun e=>by
 rcases hv with hv|⟨g,hv,hl⟩
 ·exact Nat.lt_irrefl _ (h b (hv.symm.trans e))
 ·rw[hv]at e;injection e with e;omega
theorem ac8{b:Nat}{W:World}{v:Value}{i:Int}{e d:Int}(k:Int)(hB:Box W b 204 #[v,.int .i64 i,.int .i64 e,.int .i64 d]):
  Calls prog 146 #[.pointer (some ⟨b,0,none⟩),.int .i64 k] W fun en w'=>en=.returned (.tuple #[])∧Box w' b 204 #[v,.int .i64 i,.int .i64 (uw e k),.int .i64 d]∧Grew b W w' (some b)∧∀j,j<W.heap.size→j≠b→w'.heap[j]? =W.heap[j]? :=by
 have hP:=hB.put 2 (.int .i64 k);simp only[List.setIfInBounds_toArray,List.set_cons_zero,List.set_cons_succ]at hP;have x2:=hB.at_ 2 _ rfl;have g2:=hB.free 2;obtain⟨HP,HB⟩:=aj hP hB;clear hP hB
 by_cases he:e=0
 ·subst he;go_enter func146,ntmps146;go_wp2_with fail
  go_end0
  exact⟨rfl,by rw[show uw 0 k=k from rfl];exact HP.out,Grew.cell_ _ _ _,fun j _ hj=>Below.heap_setCell _ _ _ _ (show j≠b from hj)⟩
 ·have oN:(e==0)=false:=by simp[he]
  have hE:uw e k=e:=by unfold uw;rw[if_neg he]
  rw[hE];clear he hE;go_enter func146,ntmps146;go_wp2_with fail
  go_end0
  exact⟨rfl,HB.out,Grew.Vr _ _ _ tC,fun _ _ _=>rfl⟩
theorem YH{F:aV}{A:Option Addr}{c:Nat}(W:World)(L:List Token){bm B:Nat}{U T X:Option Addr}{cu ct cx:Nat}{m:Module}{Gt Gf:aV}(hS:SliceOf fG 2 24 W F (.slice A L.length c) L)(hF:∀k,F k→k<W.heap.size)(Io:∀t∈L,t.kind=2→jC t.text=true)(hl:L.length≤200)
  (hM:qg W bm B U T X cu ct cx m Gt Gf) (hBb:B≤W.heap.size) (hu:m.uses.length≤4000) (ht:m.types.length≤4000) (hf:m.funcs.length≤4000):
  Calls prog 85 #[.pointer (some ⟨bm,0,none⟩),.slice A L.length c] W (ae6 bm B W (Ap m L)):=by
 obtain⟨R,hR⟩:∃R,Ap m L=R:=⟨_,rfl⟩;rw[hR];have GL:=hM.low;have hbm:=hM.box.lt
 by_cases hL:L.length=0
 ·have hLn:L= []:=List.length_eq_zero_iff.1 hL;have hLz:((L.length:Int)==0)=true:=by simp[hL]
  have hx:R=.ok m:=by rw[←hR,hLn];rfl
  obtain⟨HX,HM⟩:=aj hx hM;clear hx hM;clear hR hLn hS;go_enter func85,ntmps85;go_wp2_with fail;go_ret;exact⟨m,0,⟨U,T,X,cu,ct,cx,Gt,Gf,HM.out⟩,jK.refl _ _ _,rfl,.inl ⟨rfl,HX.out⟩⟩
 have hLz:((L.length:Int)==0)=false:=by simp;exact fun h=>hL (by rw[h];rfl)
 have hrows:∀k,((Value.slice U m.uses.length cu).ownBlock=some k∨(Value.slice T m.types.length ct).ownBlock=some k∨(Value.slice X m.funcs.length cx).ownBlock=some k)→k<W.heap.size:=fun k hk=>by
  rcases hk with hk|hk|hk
  ·exact(hM.us.row hk).2
  ·exact(hM.ts.row hk).2
  ·exact(hM.fs.row hk).2
 have hft:∀k,Gt k∨Gf k→k<W.heap.size:=fun k hk=>hk.elim (fun h=>(hM.ts.foot h).1) (fun h=>(hM.fs.foot h).1)
 obtain⟨amk,HR,HM,HS,HF,OG,acL,HLN⟩:=aC hft hR hM hS hF Io hrows hL;clear hft hR hM hS hF Io hrows hL;go_enter func85,ntmps85;go_upto_region 4 with fail
 have ql:=Box.made W 204 #[.slice A L.length c,.int .i64 0,.int .i64 0,.int .i64 0];have hbe:Below W.heap.size W (W.alloc (.cells #[.slice A L.length c,.int .i64 0,.int .i64 0,.int .i64 0] 204)):=by go_grown
 have hze:(W.alloc (.cells #[.slice A L.length c,.int .i64 0,.int .i64 0,.int .i64 0] 204)).heap.size=W.heap.size+1:=by simp
 generalize W.alloc (.cells #[.slice A L.length c,.int .i64 0,.int .i64 0,.int .i64 0] 204)=W1 at ql hbe hze⊢;obtain⟨b,hb⟩:∃b,W.heap.size=b:=⟨_,rfl⟩;rw[hb]at ql hBb hbm⊢;have hbl:=ql.lt;have hs1:dB b F A c L W1 W1 0 0 0:=⟨ql,HS.out.stays fG.stays (fun _ h=>h) (Keeps.of_below hbe (fun k hk=>HF.out k hk)),Grew.Vr _ _ _ tC,fun k hk=>by have:=HF.out k hk;omega,Nat.zero_le _,OG.out,hl⟩;have hmod:∀W',Grew b W1 W' (some b)→qg W' bm B U T X cu ct cx m Gt Gf:=fun W' hg=>HM.out.later (hbe.trans (by rw[hb];exact hg.below (aJ _) (Nat.le_of_lt hbl)))
 have aik:jK bm B W W1:=jK.of_below hbe (by omega);have adT:∀W',Grew b W1 W' (some b)→jK bm B W W':=fun W' hg=>aik.trans (jK.of_below (hg.below (aJ _) (Nat.le_of_lt hbl)) hBb)
 have hrows:∀k,((Value.slice U m.uses.length cu).ownBlock=some k∨(Value.slice T m.types.length ct).ownBlock=some k∨(Value.slice X m.funcs.length cx).ownBlock=some k)→k<b:=fun k hk=>by rw[←hb];exact acL.out k hk
 have hft:∀k,Gt k∨Gf k→k<b:=fun k hk=>by rw[←hb];exact amk.out k hk
 have hnx:=one_any hs1 hbl;obtain⟨Zr,uo,JX,kD,ahq,HFT⟩:=aA hnx hmod adT hrows aik hft;clear hnx hmod adT hrows aik hft;clear ql hbe hze hs1 HM HS acL hb HF;go_wp2_with fail;refine Zr.out.mono ?_;rintro en W2 ⟨t,i2,rfl,hN,hk,htx,hl1⟩;obtain⟨kd,tx⟩:=t;dsimp only at*;have hrec:L=⟨kd,tx⟩::L.drop i2:=by
  rcases hN with ⟨_,h,_⟩|⟨h,_,_⟩
  ·simpa using h
  ·have:=h rfl;simp at this;exact absurd (by rw[this];rfl) HLN.out
 clear hN;go_upto_region 5 with fail
 have hBt:=Box.made W2 182 #[.int .i64 kd,.string tx];have hbt:Below W2.heap.size W2 (W2.alloc (.cells #[.int .i64 kd,.string tx] 182)):=by go_grown
 have pW:(W2.alloc (.cells #[.int .i64 kd,.string tx] 182)).heap.size=W2.heap.size+1:=by simp
 generalize W2.alloc (.cells #[.int .i64 kd,.string tx] 182)=W3 at hBt hbt pW⊢;have hl3:=hl1.below hbt;have x0:=hBt.at_ 0 _ rfl;have x1:=hBt.at_ 1 _ rfl;obtain⟨xK,BK,HL2,HT2⟩:=au hrec htx hl3 hBt;clear hrec htx hl3 hBt;clear hl1 hbt pW Zr;have hx:=HR.out;rw[xK.out,Dw]at hx;dsimp only at hx;rw[ZF,Uo,Un]at hx;cases hq1:(kd==1)with
 |false=>
  have aie:(kd !=1)=true:=by simp only[bne,hq1];rfl
  rw[if_pos (by simpa using hq1)]at hx;have HX:=ah hx;clear hx;go_wp2_with fail;go_ret;exact⟨m,4,⟨U,T,X,cu,ct,cx,Gt,Gf,uo.out _ HL2.out.grew⟩,JX.out _ HL2.out.grew,rfl,.inr ⟨by decide,HX.out.symm⟩⟩
 |true=>
  have aie:(kd !=1)=false:=by simp only[bne,hq1];rfl
  rw[if_neg (by simpa using hq1)]at hx;go_upto_block 0 with fail
  go_cut [] (fun wc=>∃(m':Module) (j:Nat) (e':Int),j≤L.length∧Aside (acU R L m' j e')∧Aside (X3 wc bm B m' b)∧Aside (jK bm B W wc)∧Aside (Box wc b 204 #[.slice A L.length c,.int .i64 j,.int .i64 e',.int .i64 0]))
  case first=>
   cases hqu:(tx.toList== [117,115,101])with
   |true=>
    rw[hqu,if_pos rfl]at hx;have hne:=fun V (hV:Below W3.heap.size W3 V)=>(ou (HL2.out.below hV).start).mono (R':=fun en W8=>∃s j8 e8,en=.returned (.string s)∧okS s∧St (Rs fJ L i2 0) (bJ s) L j8 e8∧dB b F A c L W1 W8 j8 e8 0) (fun en W8 hh=>by
     obtain⟨s,_,j8,e8,rfl,⟨rfl,h2⟩,h3,h4⟩:=hh;exact⟨s,j8,e8,rfl,h2,h3,(HL2.out.below hV).trans h4⟩)
    have hm2:=uo.out _ HL2.out.grew;have y0:=hm2.box.at_ 0 _ rfl;obtain⟨HX,BH⟩:=aj hx hne;clear hx hne;clear hm2;go_wp2_with fail;go_region_law(first
     |(go_simp;go_at_call 142;(with_reducible refine(BH.out _ (by go_grown)).mono ?_);rintro en W8 ⟨s,j8,e8,rfl,hs8,lN,rE⟩;have BL:=uo.out _ rE.grew;have y0:=BL.box.at_ 0 _ rfl;have g0:=BL.box.free 0;have t0:=fun o=>(BL.box.alloc o).at_ 0 _ rfl;have Nw:=Lib.hid BL;have Ju:=Lib.hid rE;have JV:=Lib.hid hs8;have XT:=Lib.hid lN;clear BL rE hs8 lN)
     |((refine lK aY.stays (.string ⟨#[]⟩) [.string s] s _ _ 23 rfl rfl underlying23 (bytes:=16) (by kernel_rfl) (show aZ aY 1 9 B _ none_ _ m.uses from Nw.out.us.alloc aY.stays _) rfl rfl (by decide) rfl (heap_alloc_new _ _) rfl (show aY _ none_ _ _ from⟨rfl,JV.out⟩) (aY.one (w:=W8) (F:=none_) _ _ ⟨rfl,JV.out⟩) (fun k hk=>hk.elim) (by unfold maxLen;omega) (by omega) (by have:=Ju.out.lt;rw[World.size_alloc];omega) ?_);intro A9 c9 W9 qA Iq UL;have hbx:=Iq.box (Nw.out.box.alloc _) GL;have g0:=hbx.free 0;clear y0;have y0:=hbx.at_ 0 _ rfl;have zn:=Lib.hid qA;have OH:=Lib.hid Iq;have Zv:=Lib.hid UL;clear qA Iq UL hbx))
    all_goals
     (try go_wp2_with fail)
     go_meet;obtain⟨hst,hbx⟩:=AP (bm:=bm) (i:=0) (.slice A9 (m.uses.length+1) c9) Ju.out OH.out (fun k hk=>kD.out k (.inl hk)) hBb GL hbl;exact⟨_,j8,e8,Ju.out.le,aside (Rx (f:=fun a=> { m with uses:=m.uses++ [a] }) HX.out.symm XT.out),aside ⟨A9,T,X,c9,ct,cx,Gt,Gf,(Nw.out.later ((Below.refl _ _).alloc (aJ _) _)).agK zn.out (fun k hk=>hk.elim id id) OH.out Zv.out,⟨(by have h:=RN Zv.out (fun k hk=>kD.out k (.inl hk)) (by have:=Ju.out.lt;rw[World.size_alloc];omega:b<_);simpa using h),fun h=>Nat.lt_irrefl _ (kD.out b (.inr (.inl h))),fun h=>Nat.lt_irrefl _ (kD.out b (.inr (.inr h)))⟩,fun h=>Nat.lt_irrefl _ (HFT.out b (.inl h)),fun h=>Nat.lt_irrefl _ (HFT.out b (.inr h))⟩,aside (ahq.out.trans hst),aside hbx⟩
   |false=>
    rw[hqu,if_neg (by simp)]at hx;cases hqt:(tx.toList== [116,121,112,101])with
    |true=>
     rw[hqt,if_pos rfl]at hx;have hcn:=ou HL2.out.start;obtain⟨HX,HCN⟩:=aj hx hcn;clear hx hcn;go_wp2_with fail;refine HCN.out.mono ?_;rintro en W4 ⟨n,_,i4,e4,rfl,⟨rfl,hno⟩,jB,hl4⟩;have qh:=HL2.out.trans hl4;have hst5:St (Rs nD L i2 0) (aO (dG sEq) fun _=>aO (iM 40) fun t=>bJ (⟨n,t⟩:Field)) L i4 e4:=(St.start nD).then_ (f:=fun n=>aO (dG sEq) fun _=>aO (iM 40) fun t=>bJ (⟨n,t⟩:Field)) jB;go_upto_region 13 with fail
     have qP:=Box.made W4 78 #[.string n,.int .i64 0,.string ⟨#[]⟩,.string ⟨#[]⟩,.slice none 0 0];have hbp:Below W4.heap.size W4 (W4.alloc (.cells #[.string n,.int .i64 0,.string ⟨#[]⟩,.string ⟨#[]⟩,.slice none 0 0] 78)):=by go_grown
     have hzp:(W4.alloc (.cells #[.string n,.int .i64 0,.string ⟨#[]⟩,.string ⟨#[]⟩,.slice none 0 0] 78)).heap.size=W4.heap.size+1:=by simp
     generalize W4.alloc (.cells #[.string n,.int .i64 0,.string ⟨#[]⟩,.string ⟨#[]⟩,.slice none 0 0] 78)=W5 at qP hbp hzp⊢;have hl5:=qh.below hbp;have hms:=jO hl5.start sEq;have hw4:=qh.size;obtain⟨pq,hpq⟩:∃z,W4.heap.size=z:=⟨_,rfl⟩;rw[hpq]at qP⊢;have Lc:pq≠b:=by omega
     obtain⟨F5,vT,qj,HP5,HNO⟩:=ay hst5 hl5 hms qP hno;clear hst5 hl5 hms qP hno;clear hl4 qh jB hbp hzp;go_wp2_with fail;refine qj.out.mono ?_;rintro en W6 ⟨_,_,i6,e6,rfl,rfl,kL,nY⟩;have NY:=vT.out.trans nY;have ZO:=nY.grew.jm HP5.out Lc;have uN:St (Rs nD L i2 0) (aO (iM 40) fun t=>bJ (⟨n,t⟩:Field)) L i6 e6:=F5.out.then_ kL;have hw6:=NY.size;have aq6:=ZO.lt;have akS:=Gx 40 W6 i6 e6 0 NY.start (by omega) (by omega);obtain⟨Jt,HP6,aju,Ti⟩:=au NY ZO akS uN;clear NY ZO akS uN;clear nY kL qj vT HP5 F5;go_wp2_with fail;refine aju.out.mono ?_;rintro en W7 ⟨ty,_,i7,e7,rfl,⟨cs,rfl,hY⟩,lN,uI⟩;have UF:=Jt.out.trans uI;have rU:St (Rs nD L i2 0) (bJ (⟨n,ty⟩:Field)) L i7 e7:=Ti.out.then_ lN;have QS:=uI.grew.jm HP6.out Lc;have hs7:=uI.size;obtain⟨A2,c2,rfl⟩:=iD.form hY;have x1:=QS.at_ 1 _ rfl;have x2:=QS.at_ 2 _ rfl;have x3:=QS.at_ 3 _ rfl;have x4:=QS.at_ 4 _ rfl;have g1:=QS.free 1;have g2:=QS.free 2;have g3:=QS.free 3;have g4:=QS.free 4;obtain⟨XT,HL7,HP7,uZ⟩:=au rU UF QS hY;clear rU UF QS hY;clear uI lN aju Jt HP6 Ti;go_upto_region 15 with fail
     have hP8:=(((HP7.out.put 1 (.int .i64 ty.kind)).put 2 (.string ty.bT)).put 3 (.string ty.name)).put 4 (.slice A2 ty.args.length c2);simp only[List.setIfInBounds_toArray,List.set_cons_zero,List.set_cons_succ]at hP8;have Q5:W1.heap.size≤pq:=by omega
     have rE:=(((HL7.out.set (p:=⟨pq,1,none⟩) Q5 hbl (.int .i64 ty.kind)).set (p:=⟨pq,2,none⟩) Q5 hbl (.string ty.bT)).set (p:=⟨pq,3,none⟩) Q5 hbl (.string ty.name)).set (p:=⟨pq,4,none⟩) Q5 hbl (.slice A2 ty.args.length c2);have hyk:¬fresh W6.heap.size W7.heap.size pq:=fun h=>by have:=h.1;omega
     have hY8:=iD.stays _ _ _ _ _ _ uZ.out (fun _ h=>h) (((((Keeps.refl _ _).setCell (q:=⟨pq,1,none⟩) hyk (.int .i64 ty.kind)).setCell (q:=⟨pq,2,none⟩) hyk (.string ty.bT)).setCell (q:=⟨pq,3,none⟩) hyk (.string ty.name)).setCell (q:=⟨pq,4,none⟩) hyk (.slice A2 ty.args.length c2));have hz8:((((W7.setCell ⟨pq,1,none⟩ (.int .i64 ty.kind)).setCell ⟨pq,2,none⟩ (.string ty.bT)).setCell ⟨pq,3,none⟩ (.string ty.name)).setCell ⟨pq,4,none⟩ (.slice A2 ty.args.length c2)).heap.size=W7.heap.size:=by simp only[size_set]
     generalize(((W7.setCell ⟨pq,1,none⟩ (.int .i64 ty.kind)).setCell ⟨pq,2,none⟩ (.string ty.bT)).setCell ⟨pq,3,none⟩ (.string ty.name)).setCell ⟨pq,4,none⟩ (.slice A2 ty.args.length c2)=W8 at hP8 rE hY8 hz8⊢;clear x1 x2 x3 x4 g1 g2 g3 g4;have BL:=uo.out _ rE.grew;have y1:=BL.box.at_ 1 _ rfl;have t1:=fun o=>(BL.box.alloc o).at_ 1 _ rfl
     have g1:=BL.box.free 1;have x0:=hP8.at_ 0 _ rfl;have x1:=hP8.at_ 1 _ rfl;have x2:=hP8.at_ 2 _ rfl;have x3:=hP8.at_ 3 _ rfl;have x4:=hP8.at_ 4 _ rfl;have hFR:aQ W8 (fresh W6.heap.size W7.heap.size) [.string n,.int .i64 ty.kind,.string ty.bT,.string ty.name,.slice A2 ty.args.length c2] ⟨n,ty⟩:=⟨[.int .i64 ty.kind,.string ty.bT,.string ty.name,.slice A2 ty.args.length c2],rfl,HNO.out,hY8⟩;have hTD:∀o,aZ aQ 5 78 B (W8.alloc o).drew Gt (.slice T m.types.length ct) m.types:=fun o=>(BL.ts.alloc aQ.stays o).below aQ.stays (by go_grown)
     have hFD:∀o,aQ (W8.alloc o).drew (fresh W6.heap.size W7.heap.size) [.string n,.int .i64 ty.kind,.string ty.bT,.string ty.name,.slice A2 ty.args.length c2] ⟨n,ty⟩:=fun o=>aQ.stays _ _ _ _ _ _ (aQ.stays.alloc hFR (fun k hk=>by have:=hk.2;omega) o) (fun _ h=>h) (Keeps.refl _ _).drew
     have hSD:∀o,(W8.alloc o).drew.heap.size=W8.heap.size+1:=fun o=>by show(W8.alloc o).heap.size=_;simp
     obtain⟨Ju,Nw,JJ,HZ8,HTD,HFD,HSD⟩:=aB rE BL hFR hz8 hTD hFD hSD;clear rE BL hFR hz8 hTD hFD hSD;clear hP8 HP7 HL7 uZ hY8;go_region_law((refine lK aQ.stays (.agg #[.string ⟨#[]⟩,.int .i64 0,.string ⟨#[]⟩,.string ⟨#[]⟩,.slice none 0 0]) [.string n,.int .i64 ty.kind,.string ty.bT,.string ty.name,.slice A2 ty.args.length c2] ⟨n,ty⟩ _ _ 24 rfl rfl underlying24 (bytes:=80) (by kernel_rfl) (HTD.out _) rfl rfl (by decide) rfl (heap_alloc_new _ _) rfl (HFD.out _) (sZ JJ.out) (fun k hk=>⟨by have:=hk.2;have:=HZ8.out;rw[HSD.out];omega,fun e=>by have:=kD.out k (.inr (.inl e.symm));have:=hk.1;omega⟩) (by unfold maxLen;omega) (by omega) (by have:=Ju.out.lt;rw[HSD.out];omega) ?_);intro A9 c9 W9 qA Iq UL;have hbx:=Iq.box (Nw.out.box.alloc _).drew GL;clear y1 g1;have g1:=hbx.free 1;have y1:=hbx.at_ 1 _ rfl;have zn:=Lib.hid qA;have OH:=Lib.hid Iq;have Zv:=Lib.hid UL;clear qA Iq UL hbx);all_goals
      (try go_wp2_with fail)
      go_meet;obtain⟨hst,hbx⟩:=AP (bm:=bm) (i:=1) (.slice A9 (m.types.length+1) c9) Ju.out OH.out.Pg (fun k hk=>kD.out k (.inr (.inl hk))) hBb GL hbl;exact⟨_,i7,e7,Ju.out.le,aside (Rx (f:=fun a=> { m with types:=m.types++ [a] }) HX.out.symm XT.out),aside ⟨U,A9,X,cu,c9,cx,_,Gf,(Nw.out.later ((Below.refl _ _).alloc (aJ _) _)).agJ zn.out (fun k hk=>⟨by have:=hk.1;omega,by have:=hk.2;have:=HZ8.out;rw[World.size_alloc];omega,fun e=>by have:=kD.out k (.inl e);have:=hk.1;omega,fun e=>by have:=kD.out k (.inr (.inr e));have:=hk.1;omega⟩) OH.out.Pg Zv.out,⟨fun h=>Nat.lt_irrefl _ (kD.out b (.inl h)),(by have h:=RN Zv.out (fun k hk=>kD.out k (.inr (.inl hk))) (by have:=Ju.out.lt;rw[HSD.out];omega:b<_);simpa using h),fun h=>Nat.lt_irrefl _ (kD.out b (.inr (.inr h)))⟩,fun h=>h.elim (fun h=>Nat.lt_irrefl _ (HFT.out b (.inl h))) (fun h=>by have h1:=h.1;omega),fun h=>Nat.lt_irrefl _ (HFT.out b (.inr h))⟩,aside (ahq.out.trans hst),aside hbx⟩
    |false=>
     rw[hqt,if_neg (by simp)]at hx;cases hqf:(tx.toList== [102,117,110,99])with
     |false=>
      rw[hqf,if_neg (by simp)]at hx;have HX:=ah hx;clear hx;go_wp2_with fail;go_ret;exact⟨m,4,⟨U,T,X,cu,ct,cx,Gt,Gf,uo.out _ HL2.out.grew⟩,JX.out _ HL2.out.grew,rfl,.inr ⟨by decide,HX.out.symm⟩⟩
     |true=>
      rw[hqf,if_pos rfl]at hx;have hne:=fun V (hV:Below W3.heap.size W3 V)=>(ac9 V i2 0 (HL2.out.below hV).start).mono (R':=fun en W8=>∃x j8 e8 P1 p1 A2 n2 A3 n3,en=.returned (.agg #[.string x.name,.string x.dH,.slice P1 x.params.length p1,.int .i64 x.result.kind,.string x.result.bT,.string x.result.name,.slice A2 x.result.args.length n2,.int .i64 x.body.kind,.int .i64 x.body.n,.string x.body.bT,.string x.body.s,.slice A3 x.body.args.length n3])∧
        dF W8 (fresh V.heap.size W8.heap.size) [.string x.name,.string x.dH,.slice P1 x.params.length p1,.int .i64 x.result.kind,.string x.result.bT,.string x.result.name,.slice A2 x.result.args.length n2,.int .i64 x.body.kind,.int .i64 x.body.n,.string x.body.bT,.string x.body.s,.slice A3 x.body.args.length n3] x∧St (Rs xw L i2 0) (bJ x) L j8 e8∧dB b F A c L W1 W8 j8 e8 0) (fun en W8 hh=>by
       obtain⟨x,_,j8,e8,rfl,⟨cs,rfl,h2⟩,h3,h4⟩:=hh;obtain⟨P1,p1,A2,n2,A3,n3,rfl⟩:=dF.cells h2;exact⟨x,j8,e8,P1,p1,A2,n2,A3,n3,rfl,h2,h3,(HL2.out.below hV).trans h4⟩)
      have hm2:=uo.out _ HL2.out.grew;have y0:=hm2.box.at_ 2 _ rfl;have hw2:=HL2.out.lt;obtain⟨HX,BH⟩:=aj hx hne;clear hx hne;clear hm2;go_wp2_with fail;go_region_law(first
       |(go_simp;go_at_call 145;(with_reducible refine(BH.out _ (by go_grown)).mono ?_);rintro en W8 ⟨x,j8,e8,P1,p1,A2,n2,A3,n3,rfl,hX8,lN,rE⟩;have BL:=uo.out _ rE.grew;have y0:=BL.box.at_ 2 _ rfl;have g0:=BL.box.free 2;have t0:=fun o=>(BL.box.alloc o).at_ 2 _ rfl;have Nw:=Lib.hid BL;have Ju:=Lib.hid rE;have TQ:=Lib.hid hX8;have XT:=Lib.hid lN;clear BL rE hX8 lN)
       |((refine lK dF.stays (.agg #[.string ⟨#[]⟩,.string ⟨#[]⟩,.slice none 0 0,.int .i64 0,.string ⟨#[]⟩,.string ⟨#[]⟩,.slice none 0 0,.int .i64 0,.int .i64 0,.string ⟨#[]⟩,.string ⟨#[]⟩,.slice none 0 0]) [.string x.name,.string x.dH,.slice P1 x.params.length p1,.int .i64 x.result.kind,.string x.result.bT,.string x.result.name,.slice A2 x.result.args.length n2,.int .i64 x.body.kind,.int .i64 x.body.n,.string x.body.bT,.string x.body.s,.slice A3 x.body.args.length n3] x _ _ 25 rfl rfl underlying25 (bytes:=192) (by kernel_rfl) (show aZ dF 12 83 B _ Gf _ m.funcs from Nw.out.fs.alloc dF.stays _) rfl rfl (by decide) rfl (heap_alloc_new _ _) rfl (show dF _ (fresh W3.heap.size W8.heap.size) _ _ from dF.stays.alloc TQ.out cZ _) (IL TQ.out) (fun k hk=>⟨by have:=hk.2;rw[World.size_alloc];omega,fun e=>by have:=kD.out k (.inr (.inr e.symm));have:=hk.1;omega⟩) (by unfold maxLen;omega) (by omega) (by have:=Ju.out.lt;rw[World.size_alloc];omega) ?_);intro A9 c9 W9 qA Iq UL;have hbx:=Iq.box (Nw.out.box.alloc _) GL;have g0:=hbx.free 2;clear y0;have y0:=hbx.at_ 2 _ rfl;have zn:=Lib.hid qA;have OH:=Lib.hid Iq;have Zv:=Lib.hid UL;clear qA Iq UL hbx))
      all_goals
       (try go_wp2_with fail)
       go_meet;obtain⟨hst,hbx⟩:=AP (bm:=bm) (i:=2) (.slice A9 (m.funcs.length+1) c9) Ju.out OH.out (fun k hk=>kD.out k (.inr (.inr hk))) hBb GL hbl;exact⟨_,j8,e8,Ju.out.le,aside (Rx (f:=fun a=> { m with funcs:=m.funcs++ [a] }) HX.out.symm XT.out),aside ⟨U,T,A9,cu,ct,c9,Gt,_,(Nw.out.later ((Below.refl _ _).alloc (aJ _) _)).agI zn.out (fun k hk=>⟨by have:=hk.1;omega,by have:=hk.2;rw[World.size_alloc];omega,fun e=>by have:=kD.out k (.inl e);have:=hk.1;omega,fun e=>by have:=kD.out k (.inr (.inl e));have:=hk.1;omega⟩) OH.out Zv.out,⟨fun h=>Nat.lt_irrefl _ (kD.out b (.inl h)),fun h=>Nat.lt_irrefl _ (kD.out b (.inr (.inl h))),(by have h:=RN Zv.out (fun k hk=>kD.out k (.inr (.inr hk))) (by have:=Ju.out.lt;rw[World.size_alloc];omega:b<_);simpa using h)⟩,fun h=>Nat.lt_irrefl _ (HFT.out b (.inl h)),fun h=>h.elim (fun h=>Nat.lt_irrefl _ (HFT.out b (.inr h))) (fun h=>by have h1:=h.1;omega)⟩,aside (ahq.out.trans hst),aside hbx⟩
  case rest=>
   obtain⟨m',j,e',hj,hso,hmd,hst,hbx⟩:=hcut;obtain⟨W4,rfl⟩:∃W,W=wc:=⟨_,rfl⟩;have hbx:=hbx.out;have hbe:=ac8 4 hbx;have hbb:b≠bm:=by omega
   have z1:=hbx.at_ 1 _ rfl;have z2:=hbx.at_ 2 _ rfl;obtain⟨XC,oq,HSO,HMD,HST⟩:=ay hbe hbx hso hmd hst;clear hbe hbx hso hmd hst;clear x0 x1 hx
   by_cases hlt:j<L.length
   ·have hltz:(j:Int)<(L.length:Int):=by omega
    have hne:(L.drop j).length≠0:=by rw[List.length_drop];omega
    have adS:R=.error (uw e' 4)∧uw e' 4≠0:=by
     unfold uw;split
     ·rename_i h0
      have:=HSO.out.out.1 h0;rw[if_neg hne]at this;exact⟨this,by decide⟩
     ·rename_i h0
      exact⟨HSO.out.out.2 h0,h0⟩
    have HS2:=ah adS;clear adS;clear hlt hne;go_wp2_with fail;refine XC.out.mono ?_;rintro en W5 ⟨rfl,hb5,hg5,hk5⟩;have abg:=HMD.out.out.touch hbb hg5 hk5;have hst5:jK bm B W W5:=HST.out.out.trans ⟨hg5.os,hg5.tape,hg5.output,hg5.size,fun k h1 h2=>by
     by_cases hkl:k<W4.heap.size
     ·exact hk5 k hkl (by omega)
     ·exact absurd (show k<W4.heap.size by have:=oq.out.lt;omega) hkl⟩
    clear z1 z2;have z2:=hb5.at_ 2 _ rfl;obtain⟨Gi,QB⟩:=aj abg hst5;clear abg hst5;clear hb5 hg5 hk5;go_wp2_with fail;go_ret;exact⟨m',uw e' 4,Gi.out,QB.out,rfl,.inr ⟨HS2.out.2,HS2.out.1⟩⟩
   ·have hltz:¬((j:Int)<(L.length:Int)):=by omega
    have yU:decide (j<L.length)=false:=decide_eq_false hlt;have he0:(L.drop j).length=0:=by rw[List.length_drop];omega
    clear hlt;have hma:Ep W4 bm B m':=by
     obtain⟨U,T,X,cu,ct,cx,Gt,Gf,h,_⟩:=HMD.out.out;exact⟨U,T,X,cu,ct,cx,Gt,Gf,h⟩
    have adS:(e'=0∧R=.ok m')∨(e'≠0∧R=.error e'):=by
     by_cases h0:e'=0
     ·have:=HSO.out.out.1 h0;rw[if_pos he0]at this;exact .inl ⟨h0,this⟩
     ·exact .inr ⟨h0,HSO.out.out.2 h0⟩
    obtain⟨HS2,HMA⟩:=aj adS hma;clear adS hma;clear he0;go_wp2_with fail;go_ret;exact⟨m',e',HMA.out,HST.out.out,rfl,HS2.out⟩
end Go.Proofs.YtjaladhdnbhliaaGreatDoor
