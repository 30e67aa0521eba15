/- Parts. -/
import Derived.Test.YtjaladhdnbhliaaGreatDoorQReadG
import Derived.Test.YtjaladhdnbhliaaGreatDoorQMods
set_option maxHeartbeats 8000000
namespace Go.Proofs.YtjaladhdnbhliaaGreatDoor
open Go.Proofs.Tryz
open Go.RowKit Go.Shelf
def acT(bm B:Nat)(W:World)(r:Except Int Module)(e:Ending)(W':World):Prop:=
 ∃m',Ep W' bm B m'∧jK bm B W W'∧((e=.returned (.tuple #[])∧r=.ok m')∨∃k,e=.panicked [iU k]∧r=.error k)
theorem ug{α:Type}{p:Pr α}{l:List Token}{k:Int}(h:p l=.error k):uQ p l=.error k:=bM h
theorem FI{α:Type}{p:Pr α}{l r:List Token}{x:α}(h:p l=.ok (x,r)):uQ p l=if r.length=0 then .ok (x,[])else .error 4:=by
 refine(bI h).trans ?_;cases r with
 |nil=>rfl
 |cons t u=>rfl
theorem Dw(m:Module)(t:Token)(r:List Token):Ap m (t::r)=if t.kind≠1 then .error 4
  else if iT t.text LC=true then(uQ fJ r).map fun x=> { m with uses:=m.uses++ [x.1] }
  else if iT t.text Dv=true then(uQ nD r).map fun x=> { m with types:=m.types++ [x.1] }
  else if iT t.text Du=true then(uQ xw r).map fun x=> { m with funcs:=m.funcs++ [x.1] }
  else .error 4:=rfl
theorem ZF(s:ByteArray):iT s LC=(s.toList== [117,115,101]):=by unfold iT;rw[show LC.toList= [117,115,101]by rw[ByteArray.toList_eq];rfl]
theorem Uo(s:ByteArray):iT s Dv=(s.toList== [116,121,112,101]):=by unfold iT;rw[show Dv.toList= [116,121,112,101]by rw[ByteArray.toList_eq];rfl]
theorem Un(s:ByteArray):iT s Du=(s.toList== [102,117,110,99]):=by unfold iT;rw[show Du.toList= [102,117,110,99]by rw[ByteArray.toList_eq];rfl]
theorem map_if{α β:Type}{x:α}{c:Prop}[Decidable c]{f:α→β}{k:Int}:(if c then(.ok x:Except Int α)else .error k).map f=if c then .ok (f x)else .error k:=by split<;>rfl
theorem IL{w:World}{F:aV}{cs:List Value}{x:Func}(h:dF w F cs x):∀u∈cs,u.oneCell'=true:=by
 obtain⟨P1,p1,A2,n2,A3,n3,rfl⟩:=dF.cells h;intro u hu;simp only[List.mem_cons,List.not_mem_nil,or_false]at hu;rcases hu with rfl|rfl|rfl|rfl|rfl|rfl|rfl|rfl|rfl|rfl|rfl|rfl<;>rfl
theorem Dz{b bm B i:Nat}{F:aV}{W W8 W9:World}{L:List Token}{d:Int}{o:Obj}{row:Option Nat}(u:Value)(hl:Look b F W W8 L d)(hg:Grew B (W8.alloc o) W9 row)(hrow:∀k,row=some k→k<b)(hBb:B≤b)(hbm:bm<B)(hbW:b<W.heap.size):
  jK bm B W (W9.setCell ⟨bm,i,none⟩ u)∧∃A c,Box (W9.setCell ⟨bm,i,none⟩ u) b 141 #[.slice A L.length c,.int .i64 d]:=by
 have h1:jK bm B W W8:=jK.of_below (hl.grew.below (aJ _) (Nat.le_of_lt hbW)) hBb;have hs:W.heap.size≤W8.heap.size:=hl.size;have h2:jK bm B W8 W9:=(jK.of_below ((Below.refl _ W8).alloc (aJ _) o) (by omega)).trans (jK.aae hg (by rw[World.size_alloc];omega));obtain⟨A,c,hB,_⟩:=hl.C9;refine⟨(h1.trans h2).set i u,A,c,?_⟩;have hB9:Box W9 b 141 #[.slice A L.length c,.int .i64 d]:=(hB.alloc o).of_heap (hg.block b (by rw[World.size_alloc];have:=hB.lt;omega) (fun e=>Nat.lt_irrefl _ (hrow b e.symm)));exact hB9.far (by show b≠bm;omega) u
set_option maxRecDepth 100000 in
theorem ad6{b:Nat}{F:aV}(W0 W:World)(L:List Token){bm B:Nat}{U T X:Option Addr}{cu ct cx:Nat}{m:Module}{Gt Gf:aV}(h:Look b F W W L 0)(hl:L.length≤200)(hk1:∀t∈L,1≤t.kind)
  (hM:qg W0 bm B U T X cu ct cx m Gt Gf) (hb0:W0.heap.size=b) (hW:Below b W0 W) (hBb:B≤b) (hu:m.uses.length≤4000) (ht:m.types.length≤4000) (hf:m.funcs.length≤4000):
  Calls prog 81 #[.pointer (some ⟨b,0,none⟩),.pointer (some ⟨bm,0,none⟩)] W (acT bm B W (Ap m L)):=by
 obtain⟨R,hR⟩:∃R,Ap m L=R:=⟨_,rfl⟩;rw[hR];have hbl:=h.lt;have hnx:=next_any h hbl;have hmod:∀W',Grew b W W' (some b)→qg W' bm B U T X cu ct cx m Gt Gf:=fun W' hg=>hM.later (by rw[hb0];exact hW.trans (hg.below (aJ _) (Nat.le_of_lt hbl)))
 have adT:∀W',Grew b W W' (some b)→jK bm B W W':=fun W' hg=>jK.of_below (hg.below (aJ _) (Nat.le_of_lt hbl)) hBb
 have hrows:∀k,((Value.slice U m.uses.length cu).ownBlock=some k∨(Value.slice T m.types.length ct).ownBlock=some k∨(Value.slice X m.funcs.length cx).ownBlock=some k)→k<b:=fun k hk=>by
  rw[←hb0];rcases hk with hk|hk|hk
  ·exact(hM.us.row hk).2
  ·exact(hM.ts.row hk).2
  ·exact(hM.fs.row hk).2
 have GL:=hM.low;obtain⟨HR,HH,Zr,uo,JX,kD,Ec⟩:=aB hR h hnx hmod adT hrows hk1;clear hR h hnx hmod adT hrows hk1;clear hM hW;go_enter func81,ntmps81;go_wp2_with fail;refine Zr.out.mono ?_;rintro e W1 ⟨t,L1,rfl,hN,hk,htx,hl1⟩;obtain⟨kd,tx⟩:=t;dsimp only at*;have hrec:1≤kd→L=⟨kd,tx⟩::L1:=fun h1=>by
  rcases hN with ⟨_,h,_⟩|h
  ·injection h with h2 h3;omega
  ·exact h
 have hnil:kd=0→L= []∧L1= []:=fun h0=>by
  rcases hN with ⟨h1,_,h2⟩|h
  ·exact⟨h1,h2⟩
  ·have:=Ec.out ⟨kd,tx⟩ (by rw[h];exact List.mem_cons_self);dsimp only at this;omega
 have hkd:kd≠0→1≤kd:=fun h0=>by
  rcases hN with ⟨_,h,_⟩|h
  ·injection h with h2 h3;omega
  ·exact Ec.out ⟨kd,tx⟩ (by rw[h];exact List.mem_cons_self)
 have hll:L1.length≤L.length:=by
  rcases hN with ⟨_,_,h⟩|h<;>(rw[h];simp)
 clear hN;go_upto_block 0 with fail
 have hBt:=Box.made W1 182 #[.int .i64 kd,.string tx];have hbt:Below W1.heap.size W1 (W1.alloc (.cells #[.int .i64 kd,.string tx] 182)):=by go_grown
 have pW:(W1.alloc (.cells #[.int .i64 kd,.string tx] 182)).heap.size=W1.heap.size+1:=by simp
 generalize W1.alloc (.cells #[.int .i64 kd,.string tx] 182)=W2 at hBt hbt pW⊢;have hl2:=hl1.below hbt;have x0:=hBt.at_ 0 _ rfl;have x1:=hBt.at_ 1 _ rfl;obtain⟨xK,amH,HKD,BK,HL2,HT2⟩:=aA hrec hnil hkd htx hl2 hBt;clear hrec hnil hkd htx hl2 hBt;clear hl1 hbt pW Zr;go_cut [] (fun wc=>∃(m':Module) (L':List Token) (A:Option Addr) (c:Nat),Aside (R=if L'.length=0 then .ok m' else .error 4)∧Aside (Ep wc bm B m')∧Aside (jK bm B W wc)∧Aside (Box wc b 141 #[.slice A L'.length c,.int .i64 0]))
 case first=>
  cases hq0:(kd==0)with
  |true=>
   obtain⟨hLn,rfl⟩:=amH.out (by simpa using hq0);have hx:R=.ok m:=by rw[←HR.out,hLn];rfl
   obtain⟨A,c,hB,_⟩:=HL2.out.C9;obtain⟨HX,HB⟩:=aj hx hB;clear hx hB;clear hLn;go_wp2_with fail;go_meet;exact⟨m,[],A,c,aside HX.out,aside ⟨U,T,X,cu,ct,cx,Gt,Gf,uo.out _ HL2.out.grew⟩,aside (JX.out _ HL2.out.grew),aside HB.out⟩
  |false=>
   have hk0:kd≠0:=by simpa using hq0
   have hx:=HR.out;rw[xK.out (HKD.out hk0),Dw]at hx;dsimp only at hx;rw[ZF,Uo,Un]at hx;clear hk0;cases hq1:(kd==1)with
   |false=>
    have aie:(kd !=1)=true:=by simp only[bne,hq1];rfl
    rw[if_pos (by simpa using hq1)]at hx;have HX:=ah hx;clear hx;go_wp2_with(first|(go_at_call 71;(with_reducible refine(bF _ _).mono ?_);rintro e w' ⟨rfl,rfl⟩)|(go_at_call 71;(with_reducible refine(bQ _ _).mono ?_);rintro e w' ⟨rfl,rfl⟩));exact⟨rfl,m,⟨U,T,X,cu,ct,cx,Gt,Gf,uo.out _ HL2.out.grew⟩,JX.out _ HL2.out.grew,.inr ⟨4,rfl,HX.out.symm⟩⟩
   |true=>
    have aie:(kd !=1)=false:=by simp only[bne,hq1];rfl
    rw[if_neg (by simpa using hq1)]at hx;cases hqu:(tx.toList== [117,115,101])with
    |true=>
     rw[hqu,if_pos rfl]at hx;have hcn:=fun U (hU:Below W2.heap.size W2 U)=>name_any (HL2.out.below hU).start (HL2.out.below hU).lt
     obtain⟨HX,HCN⟩:=aj hx hcn;clear hx hcn;cases hpn:fJ L1 with
     |error k=>
      have hxk:R=.error k:=by rw[←HX.out,ug hpn];rfl
      have hne:=fun U hU=>(HCN.out U hU).mono (R':=fun e W8=>e=.panicked [iU k]∧Grew b W W8 (some b)) (fun e W8 hh=>by
       rcases hh with ⟨n,L8,_,h1,_⟩|⟨k',L8,d8,h1,rfl,h3,h4,h5⟩
       ·rw[hpn]at h1;cases h1
       ·rw[hpn]at h1;cases h1;exact⟨rfl,((HL2.out.below hU).trans h3).grew⟩)
      have hm2:=uo.out _ HL2.out.grew;have y0:=hm2.box.at_ 0 _ rfl;obtain⟨XZ,BH⟩:=aj hxk hne;clear hxk hne;clear HCN hpn HX hm2;go_wp2_with fail;refine kQ [] (fun c W8=>c= [iU k]∧Grew b W W8 (some b)) ?_ ?_
      ·rintro c ⟨tm,df⟩ W8 rfl ⟨rfl,F7⟩;exact⟨rfl,m,⟨U,T,X,cu,ct,cx,Gt,Gf,uo.out _ F7⟩,JX.out _ F7,.inr ⟨k,rfl,XZ.out⟩⟩
      refine wp_region_held_drew (S:=fun w'=>w'.cell? ⟨bm,0,none⟩=some (.slice U m.uses.length cu)) (by kernel_rfl) y0 (fun hHeld=>?_);refine wpAnyH_take (i:=0) (v:= ?_) rfl (by kernel_rfl) (by kernel_rfl) (by kernel_rfl) (fun _ _ _ h=>h) (Or.inl ⟨by rfl,?_⟩) (by assumption) ?_;rotate_left
      ·intro w hSw;(try dsimp only at hSw);go_simp;try with_reducible rfl
      simp only[Act.put,List.setIfInBounds_toArray];refine wpAnyH_take (i:=1) (v:= ?_) rfl (by kernel_rfl) (by kernel_rfl) (by kernel_rfl) (fun _ _ _ h=>h) (Or.inl ⟨by rfl,?_⟩) (by assumption) ?_;rotate_left
      ·intro w hSw;(try dsimp only at hSw);go_simp;try with_reducible rfl
      simp only[Act.put];refine wpAnyH_take (i:=2) (v:= ?_) rfl (by kernel_rfl) (by kernel_rfl) (by kernel_rfl) (fun _ _ _ h=>h) (Or.inl ⟨by rfl,?_⟩) (by assumption) ?_;rotate_left
      ·intro w hSw;(try dsimp only at hSw);go_simp;try with_reducible rfl
      simp only[Act.put];refine wpAnyH_take (i:=3) (v:= ?_) rfl (by kernel_rfl) (by kernel_rfl) (by kernel_rfl) (fun _ _ _ h=>h) (Or.inl ⟨by rfl,?_⟩) (by assumption) ?_;rotate_left
      ·intro w hSw;(try dsimp only at hSw);go_simp;try with_reducible rfl
      simp only[Act.put];refine wpAnyH_take (i:=4) (v:= ?_) rfl (by kernel_rfl) (by kernel_rfl) (by kernel_rfl) (fun _ _ _ h=>h) (Or.inl ⟨by rfl,?_⟩) (by assumption) ?_;rotate_left
      ·intro w hSw;(try dsimp only at hSw);go_simp;try with_reducible rfl
      simp only[Act.put];refine wpAnyH_take (i:=5) (v:= ?_) rfl (by kernel_rfl) (by kernel_rfl) (by kernel_rfl) (fun _ _ _ h=>h) (Or.inl ⟨by rfl,?_⟩) (by assumption) ?_;rotate_left
      ·intro w hSw;(try dsimp only at hSw);go_simp;try with_reducible rfl
      simp only[Act.put];refine wpAnyH_ready (rs:= [6]) (by kernel_rfl) (by simp) ?_;refine AllReadyH.cons rfl (fun K hK=>?_) AllReadyH.nil;go_simp;refine(BH.out _ (by go_grown)).mono ?_;rintro e W8 ⟨rfl,hh⟩;exact⟨rfl,rfl,hh⟩
     |ok a=>
      obtain⟨s,L3⟩:=a;have hxk:R=if L3.length=0 then .ok { m with uses:=m.uses++ [s] } else .error 4:=by rw[←HX.out,FI hpn];exact map_if
      have hne:=fun U hU=>(HCN.out U hU).mono (R':=fun e W8=>e=.returned (.string s)∧okS s∧Look b F W W8 L3 0) (fun e W8 hh=>by
       rcases hh with ⟨n,L8,_,h1,rfl,⟨rfl,h2⟩,h3⟩|⟨k',L8,d8,h1,_⟩
       ·rw[hpn]at h1;cases h1;exact⟨rfl,h2,(HL2.out.below hU).trans h3⟩
       ·rw[hpn]at h1;cases h1)
      have hm2:=uo.out _ HL2.out.grew;have y0:=hm2.box.at_ 0 _ rfl;obtain⟨XZ,BH⟩:=aj hxk hne;clear hxk hne;clear HCN hpn HX hm2;go_wp2_with fail;go_region_law(first
       |(go_simp;go_at_call 124;(with_reducible refine(BH.out _ (by go_grown)).mono ?_);rintro e W8 ⟨rfl,hs8,rE⟩;have BL:=uo.out _ rE.grew;have y0:=BL.box.at_ 0 _ rfl;have g0:=BL.box.free 0;have t0:=fun o=>(BL.box.alloc o).at_ 0 _ rfl;have Nw:=Lib.hid BL;have Ju:=Lib.hid rE;have JV:=Lib.hid hs8;clear BL rE hs8)
       |((refine lK aY.stays (.string ⟨#[]⟩) [.string s] s _ _ 23 rfl rfl underlying23 (bytes:=16) (by kernel_rfl) (show aZ aY 1 9 B _ none_ _ m.uses from Nw.out.us.alloc aY.stays _) rfl rfl (by decide) rfl (heap_alloc_new _ _) rfl (show aY _ none_ _ _ from⟨rfl,JV.out⟩) (aY.one (w:=W8) (F:=none_) _ _ ⟨rfl,JV.out⟩) (fun k hk=>hk.elim) (by unfold maxLen;omega) (by omega) (by have:=Ju.out.lt;rw[World.size_alloc];omega) ?_);intro A9 c9 W9 qA Iq UL;have hbx:=Iq.box (Nw.out.box.alloc _) GL;have g0:=hbx.free 0;clear y0;have y0:=hbx.at_ 0 _ rfl;have zn:=Lib.hid qA;have OH:=Lib.hid Iq;have Zv:=Lib.hid UL;clear qA Iq UL hbx))
      all_goals
       (try go_wp2_with fail)
       go_meet;obtain⟨hst,A',c',hbx⟩:=Dz (bm:=bm) (i:=0) (.slice A9 (m.uses.length+1) c9) Ju.out OH.out (fun k hk=>kD.out k (.inl hk)) hBb GL hbl;exact⟨_,L3,A',c',aside XZ.out,aside ⟨A9,T,X,c9,ct,cx,Gt,Gf,(Nw.out.later ((Below.refl _ _).alloc (aJ _) _)).agK zn.out (fun k hk=>hk.elim id id) OH.out Zv.out⟩,aside hst,aside hbx⟩
    |false=>
     rw[hqu,if_neg (by simp)]at hx;cases hqt:(tx.toList== [116,121,112,101])with
     |true=>
      rw[hqt,if_pos rfl]at hx;have hcn:=name_any HL2.out.start HL2.out.lt;obtain⟨HX,HCN⟩:=aj hx hcn;clear hx hcn;go_wp2_with fail;refine HCN.out.mono ?_;rintro e W3 (⟨n,L3,_,hn,rfl,⟨rfl,hno⟩,hl3⟩|⟨k,L3,d3,hn,rfl,hl3,h1,h2⟩);rotate_left
      ·have hpf:nD L1=.error k:=bM hn;have hxk:R=.error k:=by rw[←HX.out,ug hpf];rfl
       clear hpf;have pG:=HL2.out.trans hl3;obtain⟨XZ,BP⟩:=aj hxk pG;clear hxk pG;clear hl3 hn;go_wp2_with fail;exact⟨rfl,m,⟨U,T,X,cu,ct,cx,Gt,Gf,uo.out _ BP.out.grew⟩,JX.out _ BP.out.grew,.inr ⟨k,rfl,XZ.out⟩⟩
      have pG:=HL2.out.trans hl3;have hx3:nD L1=aO (dG sEq) (fun _=>aO (iM 40) fun t=>bJ (⟨n,t⟩:Field)) L3:=bI hn;have hs3:=qH _ _ _ hn;go_upto_region 9 with fail
      have qP:=Box.made W3 78 #[.string n,.int .i64 0,.string ⟨#[]⟩,.string ⟨#[]⟩,.slice none 0 0];have hbp:Below W3.heap.size W3 (W3.alloc (.cells #[.string n,.int .i64 0,.string ⟨#[]⟩,.string ⟨#[]⟩,.slice none 0 0] 78)):=by go_grown
      have hzp:(W3.alloc (.cells #[.string n,.int .i64 0,.string ⟨#[]⟩,.string ⟨#[]⟩,.slice none 0 0] 78)).heap.size=W3.heap.size+1:=by simp
      generalize W3.alloc (.cells #[.string n,.int .i64 0,.string ⟨#[]⟩,.string ⟨#[]⟩,.slice none 0 0] 78)=W4 at qP hbp hzp⊢;have hl4:=pG.below hbp;have hms:=lD hl4.start sEq;have hw3:=pG.size;obtain⟨pq,hpq⟩:∃z,W3.heap.size=z:=⟨_,rfl⟩;rw[hpq]at qP⊢;have Lc:pq≠b:=by omega
      obtain⟨wJ,AZ,qj,HP4,HNO⟩:=ay hx3 hl4 hms qP hno;clear hx3 hl4 hms qP hno;clear hl3 pG hn hbp hzp;go_wp2_with fail;refine qj.out.mono ?_;rintro e W5 ⟨L5,(⟨rfl,uJ,hl5⟩|⟨rfl,uJ,hl5⟩)⟩;rotate_left
      ·have hpf:nD L1=.error 4:=wJ.out.trans (bM (jy uJ));have hxk:R=.error 4:=by rw[←HX.out,ug hpf];rfl
       clear hpf;have oC:=AZ.out.trans hl5;obtain⟨XZ,vT⟩:=aj hxk oC;clear hxk oC;clear hl5 uJ;go_wp2_with fail;exact⟨rfl,m,⟨U,T,X,cu,ct,cx,Gt,Gf,uo.out _ vT.out.grew⟩,JX.out _ vT.out.grew,.inr ⟨4,rfl,XZ.out⟩⟩
      have oC:=AZ.out.trans hl5;have hP5:=hl5.grew.jm HP4.out Lc;have ht5:=take_len uJ;have hw5:=oC.size;have aq5:=hP5.lt;have akR:=H9 40 W5 L5 0 oC.start (by omega) (by omega);obtain⟨vT,HP5,ajt,Gi⟩:=au oC hP5 akR uJ;clear oC hP5 akR uJ;clear hl5 qj AZ HP4;go_wp2_with fail;refine ajt.out.mono ?_;rintro e W6 (⟨ty,L6,_,hn,rfl,⟨cs,rfl,hY⟩,nY⟩|⟨k,L6,d6,hn,rfl,nY,h1,h2⟩);rotate_left
      ·have hpf:nD L1=.error k:=wJ.out.trans ((bI (iH Gi.out)).trans (bM hn));have hxk:R=.error k:=by rw[←HX.out,ug hpf];rfl
       clear hpf;have NY:=vT.out.trans nY;obtain⟨XZ,Jt⟩:=aj hxk NY;clear hxk NY;clear nY hn;go_wp2_with fail;exact⟨rfl,m,⟨U,T,X,cu,ct,cx,Gt,Gf,uo.out _ Jt.out.grew⟩,JX.out _ Jt.out.grew,.inr ⟨k,rfl,XZ.out⟩⟩
      have hpf:nD L1=.ok (⟨n,ty⟩,L6):=wJ.out.trans ((bI (iH Gi.out)).trans (bI hn));have hxk:R=if L6.length=0 then .ok { m with types:=m.types++ [⟨n,ty⟩] } else .error 4:=by
       rw[←HX.out,FI hpf];exact map_if
      clear hpf;have NY:=vT.out.trans nY;have ZO:=nY.grew.jm HP5.out Lc;have hs6:=nY.size;obtain⟨A2,c2,rfl⟩:=iD.form hY;have x1:=ZO.at_ 1 _ rfl;have x2:=ZO.at_ 2 _ rfl;have x3:=ZO.at_ 3 _ rfl;have x4:=ZO.at_ 4 _ rfl;have g1:=ZO.free 1;have g2:=ZO.free 2;have g3:=ZO.free 3;have g4:=ZO.free 4;obtain⟨XZ,Jt,HP6,uZ⟩:=au hxk NY ZO hY;clear hxk NY ZO hY;clear nY hn ajt vT HP5 wJ;go_upto_region 11 with fail
      have QS:=(((HP6.out.put 1 (.int .i64 ty.kind)).put 2 (.string ty.bT)).put 3 (.string ty.name)).put 4 (.slice A2 ty.args.length c2);simp only[List.setIfInBounds_toArray,List.set_cons_zero,List.set_cons_succ]at QS;have Q5:W.heap.size≤pq:=by omega
      have uI:=(((Jt.out.set (p:=⟨pq,1,none⟩) Q5 hbl (.int .i64 ty.kind)).set (p:=⟨pq,2,none⟩) Q5 hbl (.string ty.bT)).set (p:=⟨pq,3,none⟩) Q5 hbl (.string ty.name)).set (p:=⟨pq,4,none⟩) Q5 hbl (.slice A2 ty.args.length c2);have hyk:¬fresh W5.heap.size W6.heap.size pq:=fun h=>by have:=h.1;omega
      have hY7:=iD.stays _ _ _ _ _ _ uZ.out (fun _ h=>h) (((((Keeps.refl _ _).setCell (q:=⟨pq,1,none⟩) hyk (.int .i64 ty.kind)).setCell (q:=⟨pq,2,none⟩) hyk (.string ty.bT)).setCell (q:=⟨pq,3,none⟩) hyk (.string ty.name)).setCell (q:=⟨pq,4,none⟩) hyk (.slice A2 ty.args.length c2));have qo:((((W6.setCell ⟨pq,1,none⟩ (.int .i64 ty.kind)).setCell ⟨pq,2,none⟩ (.string ty.bT)).setCell ⟨pq,3,none⟩ (.string ty.name)).setCell ⟨pq,4,none⟩ (.slice A2 ty.args.length c2)).heap.size=W6.heap.size:=by simp only[size_set]
      generalize(((W6.setCell ⟨pq,1,none⟩ (.int .i64 ty.kind)).setCell ⟨pq,2,none⟩ (.string ty.bT)).setCell ⟨pq,3,none⟩ (.string ty.name)).setCell ⟨pq,4,none⟩ (.slice A2 ty.args.length c2)=W7 at QS uI hY7 qo⊢;clear x1 x2 x3 x4 g1 g2 g3 g4;have QX:=uo.out _ uI.grew;have y1:=QX.box.at_ 1 _ rfl;have t1:=fun o=>(QX.box.alloc o).at_ 1 _ rfl
      have g1:=QX.box.free 1;have x0:=QS.at_ 0 _ rfl;have x1:=QS.at_ 1 _ rfl;have x2:=QS.at_ 2 _ rfl;have x3:=QS.at_ 3 _ rfl;have x4:=QS.at_ 4 _ rfl;have hFR:aQ W7 (fresh W5.heap.size W6.heap.size) [.string n,.int .i64 ty.kind,.string ty.bT,.string ty.name,.slice A2 ty.args.length c2] ⟨n,ty⟩:=⟨[.int .i64 ty.kind,.string ty.bT,.string ty.name,.slice A2 ty.args.length c2],rfl,HNO.out,hY7⟩;have hTD:∀o,aZ aQ 5 78 B (W7.alloc o).drew Gt (.slice T m.types.length ct) m.types:=fun o=>(QX.ts.alloc aQ.stays o).below aQ.stays (by go_grown)
      have hFD:∀o,aQ (W7.alloc o).drew (fresh W5.heap.size W6.heap.size) [.string n,.int .i64 ty.kind,.string ty.bT,.string ty.name,.slice A2 ty.args.length c2] ⟨n,ty⟩:=fun o=>aQ.stays _ _ _ _ _ _ (aQ.stays.alloc hFR (fun k hk=>by have:=hk.2;omega) o) (fun _ h=>h) (Keeps.refl _ _).drew
      have hSD:∀o,(W7.alloc o).drew.heap.size=W7.heap.size+1:=fun o=>by show(W7.alloc o).heap.size=_;simp
      obtain⟨HL7,HM7,JJ,HZ7,HTD,HFD,HSD⟩:=aB uI QX hFR qo hTD hFD hSD;clear uI QX hFR qo hTD hFD hSD;clear QS HP6 Jt uZ hY7;go_region_law((refine lK aQ.stays (.agg #[.string ⟨#[]⟩,.int .i64 0,.string ⟨#[]⟩,.string ⟨#[]⟩,.slice none 0 0]) [.string n,.int .i64 ty.kind,.string ty.bT,.string ty.name,.slice A2 ty.args.length c2] ⟨n,ty⟩ _ _ 24 rfl rfl underlying24 (bytes:=80) (by kernel_rfl) (HTD.out _) rfl rfl (by decide) rfl (heap_alloc_new _ _) rfl (HFD.out _) (sZ JJ.out) (fun k hk=>⟨by have:=hk.2;have:=HZ7.out;rw[HSD.out];omega,fun e=>by have:=kD.out k (.inr (.inl e.symm));have:=hk.1;omega⟩) (by unfold maxLen;omega) (by omega) (by have:=HL7.out.lt;rw[HSD.out];omega) ?_);intro A9 c9 W9 qA Iq UL;have hbx:=Iq.box (HM7.out.box.alloc _).drew GL;clear y1 g1;have g1:=hbx.free 1;have y1:=hbx.at_ 1 _ rfl;have zn:=Lib.hid qA;have OH:=Lib.hid Iq;have Zv:=Lib.hid UL;clear qA Iq UL hbx);all_goals
       (try go_wp2_with fail)
       go_meet;obtain⟨hst,A',c',hbx⟩:=Dz (bm:=bm) (i:=1) (.slice A9 (m.types.length+1) c9) HL7.out OH.out.Pg (fun k hk=>kD.out k (.inr (.inl hk))) hBb GL hbl;exact⟨_,L6,A',c',aside XZ.out,aside ⟨U,A9,X,cu,c9,cx,_,Gf,(HM7.out.later ((Below.refl _ _).alloc (aJ _) _)).agJ zn.out (fun k hk=>⟨by have:=hk.1;omega,by have:=hk.2;have:=HZ7.out;rw[World.size_alloc];omega,fun e=>by have:=kD.out k (.inl e);have:=hk.1;omega,fun e=>by have:=kD.out k (.inr (.inr e));have:=hk.1;omega⟩) OH.out.Pg Zv.out⟩,aside hst,aside hbx⟩
     |false=>
      rw[hqt,if_neg (by simp)]at hx;cases hqf:(tx.toList== [102,117,110,99])with
      |false=>
       rw[hqf,if_neg (by simp)]at hx;have HX:=ah hx;clear hx;go_wp2_with(first|(go_at_call 71;(with_reducible refine(bF _ _).mono ?_);rintro e w' ⟨rfl,rfl⟩)|(go_at_call 71;(with_reducible refine(bQ _ _).mono ?_);rintro e w' ⟨rfl,rfl⟩));exact⟨rfl,m,⟨U,T,X,cu,ct,cx,Gt,Gf,uo.out _ HL2.out.grew⟩,JX.out _ HL2.out.grew,.inr ⟨4,rfl,HX.out.symm⟩⟩
      |true=>
       rw[hqf,if_pos rfl]at hx;have hcn:=fun U (hU:Below W2.heap.size W2 U)=>aeo U L1 (HL2.out.below hU).start (by omega)
       obtain⟨HX,HCN⟩:=aj hx hcn;clear hx hcn;cases hpn:xw L1 with
       |error k=>
        have hxk:R=.error k:=by rw[←HX.out,ug hpn];rfl
        have hne:=fun U hU=>(HCN.out U hU).mono (R':=fun e W8=>e=.panicked [iU k]∧Grew b W W8 (some b)) (fun e W8 hh=>by
         rcases hh with ⟨n,L8,_,h1,_⟩|⟨k',L8,d8,h1,rfl,h3,h4,h5⟩
         ·rw[hpn]at h1;cases h1
         ·rw[hpn]at h1;cases h1;exact⟨rfl,((HL2.out.below hU).trans h3).grew⟩)
        have hm2:=uo.out _ HL2.out.grew;have y0:=hm2.box.at_ 2 _ rfl;obtain⟨XZ,BH⟩:=aj hxk hne;clear hxk hne;clear HCN hpn HX hm2;go_wp2_with fail;refine kQ [] (fun c W8=>c= [iU k]∧Grew b W W8 (some b)) ?_ ?_
        ·rintro c ⟨tm,df⟩ W8 rfl ⟨rfl,F7⟩;exact⟨rfl,m,⟨U,T,X,cu,ct,cx,Gt,Gf,uo.out _ F7⟩,JX.out _ F7,.inr ⟨k,rfl,XZ.out⟩⟩
        refine wp_region_held_drew (S:=fun w'=>w'.cell? ⟨bm,2,none⟩=some (.slice X m.funcs.length cx)) (by kernel_rfl) y0 (fun hHeld=>?_);refine wpAnyH_take (i:=0) (v:= ?_) rfl (by kernel_rfl) (by kernel_rfl) (by kernel_rfl) (fun _ _ _ h=>h) (Or.inl ⟨by rfl,?_⟩) (by assumption) ?_;rotate_left
        ·intro w hSw;(try dsimp only at hSw);go_simp;try with_reducible rfl
        simp only[Act.put,List.setIfInBounds_toArray];refine wpAnyH_take (i:=1) (v:= ?_) rfl (by kernel_rfl) (by kernel_rfl) (by kernel_rfl) (fun _ _ _ h=>h) (Or.inl ⟨by rfl,?_⟩) (by assumption) ?_;rotate_left
        ·intro w hSw;(try dsimp only at hSw);go_simp;try with_reducible rfl
        simp only[Act.put];refine wpAnyH_take (i:=2) (v:= ?_) rfl (by kernel_rfl) (by kernel_rfl) (by kernel_rfl) (fun _ _ _ h=>h) (Or.inl ⟨by rfl,?_⟩) (by assumption) ?_;rotate_left
        ·intro w hSw;(try dsimp only at hSw);go_simp;try with_reducible rfl
        simp only[Act.put];refine wpAnyH_take (i:=3) (v:= ?_) rfl (by kernel_rfl) (by kernel_rfl) (by kernel_rfl) (fun _ _ _ h=>h) (Or.inl ⟨by rfl,?_⟩) (by assumption) ?_;rotate_left
        ·intro w hSw;(try dsimp only at hSw);go_simp;try with_reducible rfl
        simp only[Act.put];refine wpAnyH_take (i:=4) (v:= ?_) rfl (by kernel_rfl) (by kernel_rfl) (by kernel_rfl) (fun _ _ _ h=>h) (Or.inl ⟨by rfl,?_⟩) (by assumption) ?_;rotate_left
        ·intro w hSw;(try dsimp only at hSw);go_simp;try with_reducible rfl
        simp only[Act.put];refine wpAnyH_take (i:=5) (v:= ?_) rfl (by kernel_rfl) (by kernel_rfl) (by kernel_rfl) (fun _ _ _ h=>h) (Or.inl ⟨by rfl,?_⟩) (by assumption) ?_;rotate_left
        ·intro w hSw;(try dsimp only at hSw);go_simp;try with_reducible rfl
        simp only[Act.put];refine wpAnyH_ready (rs:= [6]) (by kernel_rfl) (by simp) ?_;refine AllReadyH.cons rfl (fun K hK=>?_) AllReadyH.nil;go_simp;refine(BH.out _ (by go_grown)).mono ?_;rintro e W8 ⟨rfl,hh⟩;exact⟨rfl,rfl,hh⟩
       |ok a=>
        obtain⟨x,L3⟩:=a;have hxk:R=if L3.length=0 then .ok { m with funcs:=m.funcs++ [x] } else .error 4:=by rw[←HX.out,FI hpn];exact map_if
        have hne:=fun U hU=>(HCN.out U hU).mono (R':=fun e W8=>∃P1 p1 A2 n2 A3 n3,e=.returned (.agg #[.string x.name,.string x.dH,.slice P1 x.params.length p1,.int .i64 x.result.kind,.string x.result.bT,.string x.result.name,.slice A2 x.result.args.length n2,.int .i64 x.body.kind,.int .i64 x.body.n,.string x.body.bT,.string x.body.s,.slice A3 x.body.args.length n3])∧
          dF W8 (fresh U.heap.size W8.heap.size) [.string x.name,.string x.dH,.slice P1 x.params.length p1,.int .i64 x.result.kind,.string x.result.bT,.string x.result.name,.slice A2 x.result.args.length n2,.int .i64 x.body.kind,.int .i64 x.body.n,.string x.body.bT,.string x.body.s,.slice A3 x.body.args.length n3] x∧Look b F W W8 L3 0) (fun e W8 hh=>by
         rcases hh with ⟨n,L8,_,h1,rfl,⟨cs,rfl,h2⟩,h3⟩|⟨k',L8,d8,h1,_⟩
         ·rw[hpn]at h1;cases h1;obtain⟨P1,p1,A2,n2,A3,n3,rfl⟩:=dF.cells h2;exact⟨P1,p1,A2,n2,A3,n3,rfl,h2,(HL2.out.below hU).trans h3⟩
         ·rw[hpn]at h1;cases h1)
        have hm2:=uo.out _ HL2.out.grew;have y0:=hm2.box.at_ 2 _ rfl;have hw2:=HL2.out.lt;obtain⟨XZ,BH⟩:=aj hxk hne;clear hxk hne;clear HCN hpn HX hm2;go_wp2_with fail;go_region_law(first
         |(go_simp;go_at_call 127;(with_reducible refine(BH.out _ (by go_grown)).mono ?_);rintro e W8 ⟨P1,p1,A2,n2,A3,n3,rfl,hX8,rE⟩;have BL:=uo.out _ rE.grew;have y0:=BL.box.at_ 2 _ rfl;have g0:=BL.box.free 2;have t0:=fun o=>(BL.box.alloc o).at_ 2 _ rfl;have Nw:=Lib.hid BL;have Ju:=Lib.hid rE;have TQ:=Lib.hid hX8;clear BL rE hX8)
         |((refine lK dF.stays (.agg #[.string ⟨#[]⟩,.string ⟨#[]⟩,.slice none 0 0,.int .i64 0,.string ⟨#[]⟩,.string ⟨#[]⟩,.slice none 0 0,.int .i64 0,.int .i64 0,.string ⟨#[]⟩,.string ⟨#[]⟩,.slice none 0 0]) [.string x.name,.string x.dH,.slice P1 x.params.length p1,.int .i64 x.result.kind,.string x.result.bT,.string x.result.name,.slice A2 x.result.args.length n2,.int .i64 x.body.kind,.int .i64 x.body.n,.string x.body.bT,.string x.body.s,.slice A3 x.body.args.length n3] x _ _ 25 rfl rfl underlying25 (bytes:=192) (by kernel_rfl) (show aZ dF 12 83 B _ Gf _ m.funcs from Nw.out.fs.alloc dF.stays _) rfl rfl (by decide) rfl (heap_alloc_new _ _) rfl (show dF _ (fresh W2.heap.size W8.heap.size) _ _ from dF.stays.alloc TQ.out cZ _) (IL TQ.out) (fun k hk=>⟨by have:=hk.2;rw[World.size_alloc];omega,fun e=>by have:=kD.out k (.inr (.inr e.symm));have:=hk.1;omega⟩) (by unfold maxLen;omega) (by omega) (by have:=Ju.out.lt;rw[World.size_alloc];omega) ?_);intro A9 c9 W9 qA Iq UL;have hbx:=Iq.box (Nw.out.box.alloc _) GL;have g0:=hbx.free 2;clear y0;have y0:=hbx.at_ 2 _ rfl;have zn:=Lib.hid qA;have OH:=Lib.hid Iq;have Zv:=Lib.hid UL;clear qA Iq UL hbx))
        all_goals
         (try go_wp2_with fail)
         go_meet;obtain⟨hst,A',c',hbx⟩:=Dz (bm:=bm) (i:=2) (.slice A9 (m.funcs.length+1) c9) Ju.out OH.out (fun k hk=>kD.out k (.inr (.inr hk))) hBb GL hbl;exact⟨_,L3,A',c',aside XZ.out,aside ⟨U,T,A9,cu,ct,c9,Gt,_,(Nw.out.later ((Below.refl _ _).alloc (aJ _) _)).agI zn.out (fun k hk=>⟨by have:=hk.1;omega,by have:=hk.2;rw[World.size_alloc];omega,fun e=>by have:=kD.out k (.inl e);have:=hk.1;omega,fun e=>by have:=kD.out k (.inr (.inl e));have:=hk.1;omega⟩) OH.out Zv.out⟩,aside hst,aside hbx⟩
 case rest=>
  obtain⟨m',L',A,c,hx,hmd,hst,hbx⟩:=hcut;obtain⟨W3,rfl⟩:∃W,W=wc:=⟨_,rfl⟩;have hbx:=hbx.out;have z0:=hbx.at_ 0 _ rfl;obtain⟨n,hn⟩:∃n,L'.length=n:=⟨_,rfl⟩;rw[hn]at hx z0;have hx:=hx.out;clear x0 x1 hbx hn;cases hq:decide (n=0)with
  |true=>
   have hn0:n=0:=of_decide_eq_true hq;subst hn0;rw[if_pos rfl]at hx;have HX:=ah hx;clear hx;go_wp2_with(first|(go_at_call 71;(with_reducible refine(bF _ _).mono ?_);rintro e w' ⟨rfl,rfl⟩)|(go_at_call 71;(with_reducible refine(bQ _ _).mono ?_);rintro e w' ⟨rfl,rfl⟩))
   go_end0
   exact⟨m',hmd.out,hst.out,.inl ⟨rfl,HX.out⟩⟩
  |false=>
   have hn0:n≠0:=of_decide_eq_false hq;have hnz:((n:Int)==0)=false:=by simp[hn0]
   rw[if_neg hn0]at hx;have HX:=ah hx;clear hx;clear hn0 hq;go_wp2_with(first|(go_at_call 71;(with_reducible refine(bF _ _).mono ?_);rintro e w' ⟨rfl,rfl⟩)|(go_at_call 71;(with_reducible refine(bQ _ _).mono ?_);rintro e w' ⟨rfl,rfl⟩));exact⟨rfl,m',hmd.out,hst.out,.inr ⟨4,rfl,HX.out⟩⟩
end Go.Proofs.YtjaladhdnbhliaaGreatDoor
