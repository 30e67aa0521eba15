/- Parts. -/
import Derived.Test.YtjaladhdnbhliaaGreatDoorQBodies
import Derived.Test.YtjaladhdnbhliaaGreatDoorQSigOf
set_option maxHeartbeats 16000000
set_option maxRecDepth 100000
namespace Go.Proofs.YtjaladhdnbhliaaGreatDoor
open Go.Proofs.Tryz
open Go.RowKit
theorem UO{l:List Import}(h:bG l=0){x:Import}(hx:x∈l):fF x.face=0:=by
 unfold bG at h;split at h
 ·cases h
 ·have hb:=ny (gq h) x hx;unfold eu at hb;split at hb
  ·cases hb
  ·split at hb
   ·next h1=>exact absurd hb h1
   ·next h1=>exact Classical.not_not.1 h1
theorem NK{m:Module}{l:List Import}{own:gU}(ho:fF own=0)(hl:bG l=0)(o:ByteArray):nN kR.name (eU m l own o).funcs:=by
 unfold eU;split
 ·exact(oJ ho).2.1
 ·unfold bZ;cases hf:oz m l o with
  |none=>intro i x y hx _;simp[pJ]at hx
  |some x=>
   have hx:x∈l:=by
    unfold oz at hf;split at hf
    ·exact List.mem_of_find?_eq_some hf
    ·cases hf
   exact(oJ (UO hl hx)).2.1
def lu(f:Func)(S:kR):List Known:=(f.params.zip S.params).map fun x=>⟨x.1.name,x.2⟩
def bodyEnd(S:kR)(E:ByteArray×Int):Int:=if E.2=0∧iT E.1 S.result=false then 8 else E.2
def oI(m:Module)(l:List Import)(own:gU)(k:Nat):Int:=match m.funcs[k]? with
 |some f=>if(dJ m l k).2≠0 then(dJ m l k).2 else bodyEnd (dJ m l k).1 (ZW m l own (lu f (dJ m l k).1) 10 f.body)
 |none=>0
section
variable {m:Module} {l:List Import} {own:gU} {k:Nat} {f:Func}
theorem OQ{z:Int}(hf:m.funcs[k]? =some f)(h:(dJ m l k).2=z)(h0:z≠0):oI m l own k=z:=by
 subst h;unfold oI;rw[hf];simp only;rw[if_pos h0]
theorem OT{S:kR}(hf:m.funcs[k]? =some f)(h:dJ m l k=(S,0)):oI m l own k=bodyEnd S (ZW m l own (lu f S) 10 f.body):=by
 unfold oI;rw[hf];simp only;rw[h,if_neg (by simp)]
theorem Qj{S:kR}(hf:m.funcs[k]? =some f)(h:dJ m l k=(S,0)):S.params.length=f.params.length:=by
 unfold dJ at h;rw[hf]at h;simp only at h;split at h
 ·injection h with _ h;cases h
 split at h
 ·next h2=>injection h with _ h;exact absurd h h2
 split at h
 ·next h2=>injection h with _ h;exact absurd h h2
 ·injection h with h _
  subst h;simp
theorem II{S:kR}(h:S.params.length=f.params.length):(lu f S).length=f.params.length:=by unfold lu;simp[h]
theorem afP{S:kR}{j:Nat}{p:Field}{t:ByteArray}(hp:f.params[j]? =some p)(ht:S.params[j]? =some t):(lu f S)[j]? =some ⟨p.name,t⟩:=by
 unfold lu;rw[List.getElem?_map,(List.getElem?_zip_eq_some (z:=(p,t))).2 ⟨hp,ht⟩]
 rfl
theorem P6{S:kR}{j:Nat}{p:Field}{t:ByteArray}(hp:f.params[j]? =some p)(ht:S.params[j]? =some t):(lu f S).take (j+1)=(lu f S).take j++ [⟨p.name,t⟩]:=by
 rw[List.take_add_one,afP hp ht]
 rfl
theorem aag{S:kR}(h:∀s∈S.params,okS s):∀p∈lu f S,okS p.dV:=by
 intro p hp;unfold lu at hp;obtain⟨x,hx,rfl⟩:=List.mem_map.1 hp;exact h _ (List.of_mem_zip hx).2
theorem Ic{S:kR}{E:ByteArray×Int}{z:Int}(h:E.2=z)(h0:z≠0):bodyEnd S E=z:=by subst h;unfold bodyEnd;rw[if_neg (fun e=>h0 e.1)]
theorem Ie{S:kR}{E:ByteArray×Int}(h:E.2=0)(hq:iT E.1 S.result=false):bodyEnd S E=8:=by unfold bodyEnd;rw[if_pos ⟨h,hq⟩]
theorem EC{S:kR}{E:ByteArray×Int}(h:E.2=0)(hq:iT E.1 S.result=true):bodyEnd S E=0:=by unfold bodyEnd;rw[if_neg (fun e=>by rw[e.2]at hq;cases hq),h]
end
theorem aap{w:World}{F:aV}{v:Value}{L:List ByteArray}(h:SliceOf aY 1 16 w F v L):∀s∈L,okS s:=by
 intro s hs;obtain⟨j,hj,rfl⟩:=List.mem_iff_getElem.1 hs;obtain⟨A,c,rfl,_⟩:=h.form;obtain⟨_,_,_,_,_,_,⟨_,h2⟩,_⟩:=h.at_ (k:=j) hj;exact h2
open Go.Shelf
theorem Iy{d:Known}:∀u∈[Value.string d.name,.string d.dV],u.oneCell'=true:=by
 intro u hu;simp only[List.mem_cons,List.not_mem_nil,or_false]at hu;rcases hu with rfl|rfl<;>rfl
theorem Jw(a b:ByteArray):iT a b=(a.toList==b.toList):=by unfold iT;simp
theorem X5(m:Module)(l:List Import)(own:gU)(hm0:dD m=0)(hl0:bG l=0)(k:Nat)(ds:List Value)(lv:Value)(os:List Value)(w:World)(hk:k<m.funcs.length)
  (hm:aN w (old w.heap.size) ds m) (hl:SliceOf aU 4 72 w (old w.heap.size) lv l) (ho:bD w (old w.heap.size) os own):
  Calls prog 52 #[.agg ds.toArray,lv,.agg os.toArray,.int .i64 k] w fun e w'=>e=.returned (.int .i64 (oI m l own k))∧Below w.heap.size w w':=by
 have hsg:=fun U (hU:Below w.heap.size w U)=>Qi m l hm0 hl0 k ds lv U hk (dI aN.stays hm hU) (bK aU.stays hl hU)
 obtain⟨U1,u1,T1,e1,T2,e2,rfl,_,_,hT⟩:=aN.form hm;obtain⟨L1,l1,rfl,_⟩:=hl.form;obtain⟨T3,e3,T4,e4,rfl⟩:=bD.form ho;have hkz:(k:Int)<(m.funcs.length:Int):=by omega
 have hfx:=aK hk;have Bh:=EL (Bv hm0 _ (List.getElem_mem hk));obtain⟨bt,off,cs,hT1,jc,hcs,hfr,hcell⟩:=hT.at_ (k:=k) hk;generalize m.funcs[k]=f at hfx Bh hfr;obtain⟨P1,p1,a1,a2,a3,a4,b1,b2,b3,b4,b5,rfl,hn0,hv0,hP,hR,hX⟩:=dF.form hfr;obtain⟨A3,n3,hf⟩:=dN.form hX;simp only[List.cons.injEq,and_true]at hf;obtain⟨rfl,rfl,rfl,rfl,rfl⟩:=hf;have hc0:=hcell 0 _ rfl;have hc1:=hcell 1 _ rfl;have hc2:=hcell 2 _ rfl;have hc3:=hcell 3 _ rfl;have hc4:=hcell 4 _ rfl;have hc5:=hcell 5 _ rfl;have hc6:=hcell 6 _ rfl;have QT:=hcell 7 _ rfl;have hc8:=hcell 8 _ rfl;have QU:=hcell 9 _ rfl;have xZ:=hcell 10 _ rfl;have yc:=hcell 11 _ rfl;simp only[Nat.add_zero]at hc0;subst hT1;have hTc:=hT.cap;have hPc:=hP.cap;have hq3:bt<w.heap.size:=jc;have hbc:=fun(z:Int) h h0=>OQ (own:=own) (z:=z) hfx (l:=l) h h0
 have hbf:=fun(S:kR) h=>OT (own:=own) (S:=S) hfx (l:=l) h
 have hsc:=fun(S:kR) h=>Qj (S:=S) hfx (l:=l) h
 obtain⟨Z,hZ⟩:∃z,oI m l own k=z:=⟨_,rfl⟩;rw[hZ]at hbc hbf⊢;have adK:=Bh.2.2.2.2;have hp8:=Bh.2.1;obtain⟨HSG,HM,HL0,HO,HT,HP,HX,HBC,HBF,HSC,agY⟩:=aH hsg hm hl ho hT hP hX hbc hbf hsc adK;clear hsg hm hl ho hT hP hX hbc hbf hsc adK;clear hZ hfr hcell hcs hm0 hl0 hfx Bh jc hR hc0 hc1 hc3 hc4 hc5 hc6;go_enter func52,ntmps52;go_upto_region 1 with fail
 have dX:=((Box.made w 27 #[.slice U1 m.uses.length u1,.slice T1 m.types.length e1,.slice (some ⟨bt,off,none⟩) m.funcs.length e2]).alloc (.cells #[.slice T3 own.types.length e3,.slice T4 own.funcs.length e4] 42));have dM:=(Box.made (w.alloc (.cells #[.slice U1 m.uses.length u1,.slice T1 m.types.length e1,.slice (some ⟨bt,off,none⟩) m.funcs.length e2] 27)) 42 #[.slice T3 own.types.length e3,.slice T4 own.funcs.length e4]);rw[show(w.alloc (.cells #[.slice U1 m.uses.length u1,.slice T1 m.types.length e1,.slice (some ⟨bt,off,none⟩) m.funcs.length e2] 27)).heap.size=w.heap.size+1 by simp only[World.size_alloc]]at dM;have hbb:Below w.heap.size w ((w.alloc (.cells #[.slice U1 m.uses.length u1,.slice T1 m.types.length e1,.slice (some ⟨bt,off,none⟩) m.funcs.length e2] 27)).alloc (.cells #[.slice T3 own.types.length e3,.slice T4 own.funcs.length e4] 42)):=by go_grown
 have hzb:((w.alloc (.cells #[.slice U1 m.uses.length u1,.slice T1 m.types.length e1,.slice (some ⟨bt,off,none⟩) m.funcs.length e2] 27)).alloc (.cells #[.slice T3 own.types.length e3,.slice T4 own.funcs.length e4] 42)).heap.size=w.heap.size+1+1:=by simp only[World.size_alloc]
 generalize(w.alloc (.cells #[.slice U1 m.uses.length u1,.slice T1 m.types.length e1,.slice (some ⟨bt,off,none⟩) m.funcs.length e2] 27)).alloc (.cells #[.slice T3 own.types.length e3,.slice T4 own.funcs.length e4] 42)=W1 at dX dM hbb hzb⊢;have x0:=dX.at_ 0 _ rfl;have x1:=dX.at_ 1 _ rfl;have x2:=dX.at_ 2 _ rfl;have hsg:=HSG.out W1 hbb;obtain⟨HB1,HB2,HB,acN,HZB⟩:=ay dX dM hbb hsg hzb;clear dX dM hbb hsg hzb;clear HSG;go_wp2_with fail;refine acN.out.mono ?_;rintro e W2 ⟨ds,rfl,hb2,hSr⟩;obtain⟨S,hS⟩:∃S,(dJ m l k).1=S:=⟨_,rfl⟩;obtain⟨z,hz⟩:∃z,(dJ m l k).2=z:=⟨_,rfl⟩;rw[hS]at hSr;rw[hz];obtain⟨pv,rfl,hSn,UC,hSp⟩:=hSr;obtain⟨A7,c7,rfl,_,_,hSl,_⟩:=hSp.form;have hB1:=HB1.out.later hb2 HB1.out.lt;have hB2:=HB2.out.later hb2 HB2.out.lt;have hbw:=aS HB.out hb2;have adG:w.heap.size+1+1≤W2.heap.size:=by have h1:=hb2.size;have:=HZB.out;omega
 obtain⟨HB1,HB2,cO,HSP,HS,HZ,agR⟩:=aB hB1 hB2 hbw hSp hS hz adG;clear hB1 hB2 hbw hSp hS hz adG;clear hb2 x0 x1 x2 acN;go_upto_region 2 with fail
 have hBs:=Box.made W2 62 #[.string S.name,.slice A7 S.params.length c7,.string S.result];have hbs:Below W2.heap.size W2 (W2.alloc (.cells #[.string S.name,.slice A7 S.params.length c7,.string S.result] 62)):=by go_grown
 have hzs:(W2.alloc (.cells #[.string S.name,.slice A7 S.params.length c7,.string S.result] 62)).heap.size=W2.heap.size+1:=by simp
 generalize W2.alloc (.cells #[.string S.name,.slice A7 S.params.length c7,.string S.result] 62)=W3 at hBs hbs hzs⊢;have hB1:=HB1.out.later hbs HB1.out.lt;have hB2:=HB2.out.later hbs HB2.out.lt;have hbw:=aS cO.out hbs;have hsp:=HSP.out.up aY.stays (fun _ h=>cZ _ h) hbs;have hlz:W3.heap.size=W2.heap.size+1:=hzs;have hbw2:w.heap.size+1+1≤W2.heap.size:=by have:=agR.out;omega
 by_cases hz0:z=0
 case neg=>
  have he:=HBC.out z HZ.out hz0;subst he;have oq:=ah hbw;clear hbw;clear hB1 hB2 hBs hbs;go_wp2_with fail;go_ret;exact⟨rfl,oq.out⟩
 case pos=>
 subst hz0;have hSS:dJ m l k=(S,0):=Prod.ext HS.out HZ.out;have hcnt:=HSC.out S hSS;have hE:=HBF.out S hSS;have hL:=II hcnt;have hps:=aag (f:=f) (aap hsp);have hpt:=fun j p t h1 h2=>P6 (f:=f) (S:=S) (j:=j) (p:=p) (t:=t) h1 h2
 obtain⟨PS,hPS⟩:∃z,lu f S=z:=⟨_,rfl⟩;rw[hPS]at hL hps hpt hE;have his:=UU (m:=m) (l:=l) (own:=own) hps 10;obtain⟨E,hEE⟩:∃z,ZW m l own PS 10 f.body=z:=⟨_,rfl⟩;rw[hEE]at hE;have akY:=hbw.size;have hS8:S.params.length≤8:=by omega
 have anR:=hsp.cap;obtain⟨HB1,HB2,fV,ahp,HBS,TM,HIS,HEE,HL,aav,Xw,amP⟩:=aI hB1 hB2 hbw hsp hBs hpt his hEE hL hcnt hzs hps;have HE:=ah hE;clear hB1 hB2 hbw hsp hBs hpt his hEE hL hcnt hzs hps hE;clear hbs hSS hPS;go_wp2_with fail;go_loopg [11,12] S.params.length (fun gg s11 s12 wr=>∃(jj n c:Nat) (A:Option Addr),jj≤S.params.length∧S.params.length-jj≤gg∧s12=.int .i64 jj∧s11=.slice A n c∧Aside (n=jj)∧
  Aside (aZ aW 2 100 W3.heap.size wr none_ (.slice A n c) (PS.take jj))∧Aside (Below W3.heap.size W3 wr))
 case atStart=>exact⟨0,0,0,none,Nat.zero_le _,by omega,rfl,rfl,aside rfl,aside aZ.nil_,aside (Below.refl _ _)⟩
 case round=>
  obtain⟨jj,n,c,A,hjj,hg,rfl,rfl,hn,hO,BW⟩:=hrel;obtain⟨wo,rfl⟩:∃W,W=wr:=⟨_,rfl⟩;have hbw:=aS fV.out BW.out;have hB1:=HB1.out.later BW.out HB1.out.lt;have hBs:=HBS.out.later BW.out HBS.out.lt
  by_cases hlt:jj<S.params.length
  ·have hltz:(jj:Int)<(S.params.length:Int):=by omega
   have hltp:jj<f.params.length:=by have:=aav.out;omega
   have apm:(jj:Int)<(f.params.length:Int):=by omega
   have hat:=HP.out.up aQ.stays eF hbw;obtain⟨bp,lF,cs,hP1,jc,hcs,hpr,hpc⟩:=hat.at_ (k:=jj) hltp;have hpx:=aK hltp;generalize f.params[jj]=p at hpx hpr;obtain⟨d1,d2,d3,d4,rfl,hpn,_⟩:=aQ.form hpr;have q0:=hpc 0 _ rfl;simp only[Nat.add_zero]at q0;subst hP1;obtain⟨bs,YM,cs2,hA1,KT,hcs2,⟨rfl,htn⟩,hsc⟩:=(ahp.out.up aY.stays (fun _ h=>by have:=cZ _ h;omega) BW.out).at_ (k:=jj) hlt;have htx:=aK hlt;generalize S.params[jj]=t at htx htn hsc;have q1:=hsc 0 _ rfl;simp only[Nat.mul_one,Nat.add_zero]at q1;subst hA1;have hW3:w.heap.size+1+1≤W2.heap.size:=by have:=hbw2;omega
   have akJ:bp<W3.heap.size:=by have:bp<w.heap.size:=jc;omega
   have ahY:bs<W3.heap.size:=by have h1:=KT.2;omega
   have Yp:bt<W3.heap.size:=by omega
   have hlo:W3.heap.size≤wo.heap.size:=BW.out.size;have k2:=(hbw.cell (p:=⟨bt,off+k*12+2,none⟩) hq3).trans hc2;have x2:=hB1.at_ 2 _ rfl;have y1:=hBs.at_ 1 _ rfl;have hpt:=TM.out jj p t hpx htx;have hO2:aZ aW 2 100 W3.heap.size wo none_ (.slice A n c) (PS.take jj):=hO.out;have hlen:(PS.take jj).length=jj:=by rw[List.length_take,HL.out];omega
   obtain⟨L,hLd⟩:∃z,PS.take jj=z:=⟨_,rfl⟩;rw[hLd]at hO2 hlen hpt;obtain rfl:jj=n:=hn.out.symm;have hdr:Below W3.heap.size wo wo.drew:=by go_grown
   have hl1:w.heap.size<W3.heap.size:=by omega
   have hls:W2.heap.size<W3.heap.size:=by omega
   have HS:=Lib.hid (show ∀w',Below W3.heap.size wo w'→(w'.cell? ⟨w.heap.size,2,none⟩=some (.slice (some ⟨bt,off,none⟩) m.funcs.length e2)∧w'.cell? ⟨W2.heap.size,1,none⟩=some (.slice (some ⟨bs,YM,none⟩) S.params.length c7)∧w'.cell? ⟨bt,off+k*12+2,none⟩=some (.slice (some ⟨bp,lF,none⟩) f.params.length p1)∧w'.cell? ⟨bp,lF+jj*5,none⟩=some (.string p.name)∧w'.cell? ⟨bs,YM+jj,none⟩=some (.string t))from fun w' h=>⟨(h.cell (p:=⟨w.heap.size,2,none⟩) hl1).trans x2,(h.cell (p:=⟨W2.heap.size,1,none⟩) hls).trans y1,(h.cell (p:=⟨bt,off+k*12+2,none⟩) Yp).trans k2,(h.cell (p:=⟨bp,lF+jj*5,none⟩) akJ).trans q0,(h.cell (p:=⟨bs,YM+jj,none⟩) ahY).trans q1⟩);have HLEN:=ah hlen;obtain⟨zy,TM,HO2,bP,HLo⟩:=ay hbw hpt hO2 hdr hlo;clear hbw hpt hO2 hdr hlo;clear hpc hsc hcs hcs2 jc KT hB1 hBs hO hat hpr hlen hn hLd;go_wp2_with fail;go_upto_region 8 with fail
   go_region_held3(fun w'=>w'.cell? ⟨w.heap.size,2,none⟩=some (.slice (some ⟨bt,off,none⟩) m.funcs.length e2)∧w'.cell? ⟨W2.heap.size,1,none⟩=some (.slice (some ⟨bs,YM,none⟩) S.params.length c7)∧w'.cell? ⟨bt,off+k*12+2,none⟩=some (.slice (some ⟨bp,lF,none⟩) f.params.length p1)∧w'.cell? ⟨bp,lF+jj*5,none⟩=some (.string p.name)∧w'.cell? ⟨bs,YM+jj,none⟩=some (.string t))
    (exact HS.out _ (by first|exact bP.out|exact bP.out.alloc (Nat.le_trans HLo.out bP.out.size) _|exact(bP.out.alloc (Nat.le_trans HLo.out bP.out.size) _).drew))
    ((refine lK aW.stays (.agg #[.string ⟨#[]⟩,.string ⟨#[]⟩]) [.string p.name,.string t] ⟨p.name,t⟩ _ _ 39 rfl rfl underlying39 (bytes:=32) (by kernel_rfl) (show aZ aW 2 100 W3.heap.size _ none_ (.slice A jj c) L from HO2.out.below aW.stays (by go_grown)) rfl rfl (by decide) rfl (heap_alloc_new _ _) rfl (show aW _ none_ _ _ from⟨rfl,hpn,htn⟩) (Iy (d:=⟨p.name,t⟩)) (fun k hk=>hk.elim) (by have:=HLEN.out;unfold maxLen;omega) (by have:=HLEN.out;omega) (by have h1:=BW.out.size;simp;omega) ?_;intro A6 c6 w6 ho6 hg6 _;have hb6:=(show Below W3.heap.size W3 w6 from(BW.out.trans ((by go_grown:Below wo.heap.size wo _).mono BW.out.size)).trans (hg6.below (B:=W3.heap.size) (aJ _) (by have h1:=BW.out.size;simp;omega)));have hbk:=(bP.out.alloc (Nat.le_trans HLo.out bP.out.size) (.cells #[.string p.name,.string t] 100)).trans (hg6.below (B:=W3.heap.size) (aJ _) (by have h1:=BW.out.size;simp;omega));have bP:=Lib.hid hbk;have uq:=Lib.hid ho6;have kH:=Lib.hid hb6;clear ho6 hg6 hb6 hbk))
   all_goals
    go_wp2_with fail;go_roundg (S.params.length-(jj+1))
    case measure=>omega
    case rel=>
     refine⟨jj+1,_,c6,A6,by omega,by omega,by go_num,rfl,aside (by rw[HLEN.out]),aside ?_,aside kH.out⟩;rw[TM.out];exact aZ.wider aW.stays uq.out (F':=none_) (fun k hk=>hk.elim id id) (fun k hk=>hk.elim)
  ·have hltz:¬(jj:Int)<(S.params.length:Int):=by omega
   obtain rfl:jj=S.params.length:=by omega
   have hpl:PS.length=S.params.length:=by rw[HL.out,aav.out]
   have hO2:aZ aW 2 100 W3.heap.size wo none_ (.slice A n c) PS:=by have h:=hO.out;rwa [List.take_of_length_le (by omega)]at h
   have hsl:=hO2.slice aW.stays (jZ:=32) (F':=old wo.heap.size) (fun k hk=>hk.elim) (fun k h1 h2=>h2) (by omega) (by omega);have his:=fun U (hU:Below wo.heap.size wo U)=>HIS.out f.body [.slice U1 m.uses.length u1,.slice T1 m.types.length e1,.slice (some ⟨bt,off,none⟩) m.funcs.length e2] (.slice L1 l.length l1) [.slice T3 own.types.length e3,.slice T4 own.funcs.length e4] (.slice A n c) _ (old U.heap.size) U agY.out eF
    (dI aN.stays HM.out (hbw.trans (hU.mono hbw.size))) (bK aU.stays HL0.out (hbw.trans (hU.mono hbw.size))) (dI bD.stays HO.out (hbw.trans (hU.mono hbw.size))) (bK aW.stays hsl hU) (dI dN.stays HX.out (hbw.trans (hU.mono hbw.size)))
   rw[HEE.out]at his;have hB2:=HB2.out.later BW.out HB2.out.lt;have Yp:bt<wo.heap.size:=by have:=hbw.size;omega
   have k7:=(hbw.cell (p:=⟨bt,off+k*12+7,none⟩) hq3).trans QT;have k8:=(hbw.cell (p:=⟨bt,off+k*12+8,none⟩) hq3).trans hc8;have k9:=(hbw.cell (p:=⟨bt,off+k*12+9,none⟩) hq3).trans QU;have k10:=(hbw.cell (p:=⟨bt,off+k*12+10,none⟩) hq3).trans xZ;have k11:=(hbw.cell (p:=⟨bt,off+k*12+11,none⟩) hq3).trans yc;have hdr:Below wo.heap.size wo wo.drew:=by go_grown
   have hl1:=hB1.lt;have hl2:=hB2.lt;have x0:=hB1.at_ 0 _ rfl;have x1:=hB1.at_ 1 _ rfl;have x2:=hB1.at_ 2 _ rfl;have y0:=hB2.at_ 0 _ rfl;have y1:=hB2.at_ 1 _ rfl;have HS:=Lib.hid (show ∀w',Below wo.heap.size wo w'→(w'.cell? ⟨w.heap.size,0,none⟩=some (.slice U1 m.uses.length u1)∧w'.cell? ⟨w.heap.size,1,none⟩=some (.slice T1 m.types.length e1)∧w'.cell? ⟨w.heap.size,2,none⟩=some (.slice (some ⟨bt,off,none⟩) m.funcs.length e2)∧w'.cell? ⟨w.heap.size+1,0,none⟩=some (.slice T3 own.types.length e3)∧w'.cell? ⟨w.heap.size+1,1,none⟩=some (.slice T4 own.funcs.length e4)∧w'.cell? ⟨bt,off+k*12+7,none⟩=some (.int .i64 f.body.kind)∧w'.cell? ⟨bt,off+k*12+8,none⟩=some (.int .i64 f.body.n)∧w'.cell? ⟨bt,off+k*12+9,none⟩=some (.string f.body.bT)∧w'.cell? ⟨bt,off+k*12+10,none⟩=some (.string f.body.s)∧w'.cell? ⟨bt,off+k*12+11,none⟩=some (.slice A3 f.body.args.length n3))from fun w' h=>⟨(h.cell (p:=⟨w.heap.size,0,none⟩) hl1).trans x0,(h.cell (p:=⟨w.heap.size,1,none⟩) hl1).trans x1,(h.cell (p:=⟨w.heap.size,2,none⟩) hl1).trans x2,(h.cell (p:=⟨w.heap.size+1,0,none⟩) hl2).trans y0,(h.cell (p:=⟨w.heap.size+1,1,none⟩) hl2).trans y1,(h.cell (p:=⟨bt,off+k*12+7,none⟩) Yp).trans k7,(h.cell (p:=⟨bt,off+k*12+8,none⟩) Yp).trans k8,(h.cell (p:=⟨bt,off+k*12+9,none⟩) Yp).trans k9,(h.cell (p:=⟨bt,off+k*12+10,none⟩) Yp).trans k10,(h.cell (p:=⟨bt,off+k*12+11,none⟩) Yp).trans k11⟩);have hn':n=S.params.length:=hn.out;have s1:=hBs.at_ 1 _ rfl;obtain⟨acn,pY,ag4,bP⟩:=au hBs hbw his hdr;clear hBs hbw his hdr;clear hB1 hB2 hO2 hsl hpl hn' hn hO TM
   obtain⟨R,zr⟩:=E;go_upto_region 9 with fail
   clear s1;clear x0 x1 x2 y0 y1 k7 k8 k9 k10 k11 hc2 QT hc8 QU xZ yc;go_cut [13,14] (fun s13 s14 wc=>s13=.string R∧s14=.int .i64 zr∧Aside (Below wo.heap.size wo wc))
   case first=>
    go_region_held3(fun w'=>w'.cell? ⟨w.heap.size,0,none⟩=some (.slice U1 m.uses.length u1)∧w'.cell? ⟨w.heap.size,1,none⟩=some (.slice T1 m.types.length e1)∧w'.cell? ⟨w.heap.size,2,none⟩=some (.slice (some ⟨bt,off,none⟩) m.funcs.length e2)∧w'.cell? ⟨w.heap.size+1,0,none⟩=some (.slice T3 own.types.length e3)∧w'.cell? ⟨w.heap.size+1,1,none⟩=some (.slice T4 own.funcs.length e4)∧w'.cell? ⟨bt,off+k*12+7,none⟩=some (.int .i64 f.body.kind)∧w'.cell? ⟨bt,off+k*12+8,none⟩=some (.int .i64 f.body.n)∧w'.cell? ⟨bt,off+k*12+9,none⟩=some (.string f.body.bT)∧w'.cell? ⟨bt,off+k*12+10,none⟩=some (.string f.body.s)∧w'.cell? ⟨bt,off+k*12+11,none⟩=some (.slice A3 f.body.args.length n3))
     (exact HS.out _ (by first|exact bP.out|exact bP.out.alloc bP.out.size _|(go_grown;done)|exact(bP.out.alloc bP.out.size _).alloc (bP.out.alloc bP.out.size _).size _|exact bP.out.setCell (aJ _) _|exact(bP.out.setCell (aJ _) _).setCell (aJ _) _))
     ((go_at_call 104;(with_reducible refine(ag4.out _ bP.out).mono ?_);rintro e w7 ⟨rfl,hb7⟩;have hb8:=aS bP.out hb7;have bP:=Lib.hid hb8;clear hb7 hb8))
    all_goals
     go_wp2_with fail;go_meet;exact⟨rfl,rfl,aside bP.out⟩
   case rest=>
   obtain⟨rfl,rfl,hb6⟩:=hcut;have hBs:=acn.out.later hb6.out acn.out.lt;have hbx:=aS pY.out hb6.out;have y2:=hBs.at_ 2 _ rfl;have oq:=ah hbx;clear hbx;clear hBs hb6;have hE:=HE.out
   by_cases hr0:zr=0
   ·subst hr0;cases hq:iT R S.result with
    |true=>
     have he:=hE.trans (EC rfl hq);subst he;have hq1:(R.toList==S.result.toList)=true:=by rw[←Jw];exact hq
     have hq2:(R.toList !=S.result.toList)=false:=by simp[bne,hq1]
     clear hq hE;go_wp2_with fail;go_ret;exact⟨rfl,oq.out⟩
    |false=>
     have he:=hE.trans (Ie rfl hq);subst he;have hq1:(R.toList==S.result.toList)=false:=by rw[←Jw];exact hq
     have hq2:(R.toList !=S.result.toList)=true:=by simp[bne,hq1]
     clear hq hE;go_wp2_with fail;go_ret;exact⟨rfl,oq.out⟩
   ·have he:=hE.trans (Ic rfl hr0);have hrb:(zr==0)=false:=by simp[hr0]
    subst he;clear hE;go_wp2_with fail;go_ret;exact⟨rfl,oq.out⟩
theorem Ue(m:Module)(l:List Import)(own:gU)(hm0:dD m=0)(hl0:bG l=0)(ho0:fF own=0)(k:Nat)(ds:List Value)(lv:Value)(os:List Value)(mx:Int)(w:World)(hk:k<m.funcs.length)
  (hm:aN w (old w.heap.size) ds m) (hl:SliceOf aU 4 72 w (old w.heap.size) lv l) (ho:bD w (old w.heap.size) os own) (hM:w.cell? ⟨1,0,none⟩=some (.int .i64 mx)):
  Calls prog 47 #[.agg ds.toArray,lv,.agg os.toArray,.int .i64 k] w fun e w'=>e=.returned (.int .i64 (oI m l own k))∧Below w.heap.size w w':=by
 have aa9:=NK (m:=m) ho0 hl0;have hsg:=fun U (hU:Below w.heap.size w U)=>IV m l hm0 hl0 k ds lv U hk (dI aN.stays hm hU) (bK aU.stays hl hU)
 obtain⟨U1,u1,T1,e1,T2,e2,rfl,_,_,hT⟩:=aN.form hm;obtain⟨L1,l1,rfl,_⟩:=hl.form;obtain⟨T3,e3,T4,e4,rfl⟩:=bD.form ho;have hkz:(k:Int)<(m.funcs.length:Int):=by omega
 have hfx:=aK hk;have Bh:=EL (Bv hm0 _ (List.getElem_mem hk));obtain⟨bt,off,cs,hT1,jc,hcs,hfr,hcell⟩:=hT.at_ (k:=k) hk;generalize m.funcs[k]=f at hfx Bh hfr;obtain⟨P1,p1,a1,a2,a3,a4,b1,b2,b3,b4,b5,rfl,hn0,hv0,hP,hR,hX⟩:=dF.form hfr;obtain⟨A3,n3,hf⟩:=dN.form hX;simp only[List.cons.injEq,and_true]at hf;obtain⟨rfl,rfl,rfl,rfl,rfl⟩:=hf;have hc0:=hcell 0 _ rfl;have hc1:=hcell 1 _ rfl;have hc2:=hcell 2 _ rfl;have hc3:=hcell 3 _ rfl;have hc4:=hcell 4 _ rfl;have hc5:=hcell 5 _ rfl;have hc6:=hcell 6 _ rfl;have QT:=hcell 7 _ rfl;have hc8:=hcell 8 _ rfl;have QU:=hcell 9 _ rfl;have xZ:=hcell 10 _ rfl;have yc:=hcell 11 _ rfl;simp only[Nat.add_zero]at hc0;subst hT1;have hTc:=hT.cap;have hPc:=hP.cap;have hq3:bt<w.heap.size:=jc;have hbc:=fun(z:Int) h h0=>OQ (own:=own) (z:=z) hfx (l:=l) h h0
 have hbf:=fun(S:kR) h=>OT (own:=own) (S:=S) hfx (l:=l) h
 have hsc:=fun(S:kR) h=>Qj (S:=S) hfx (l:=l) h
 obtain⟨Z,hZ⟩:∃z,oI m l own k=z:=⟨_,rfl⟩;rw[hZ]at hbc hbf⊢;have adK:=Bh.2.2.2.2;have hp8:=Bh.2.1;obtain⟨HSG,HM,HL0,HO,HT,HP,HX,HBC,HBF,HSC,agY⟩:=aH hsg hm hl ho hT hP hX hbc hbf hsc adK;clear hsg hm hl ho hT hP hX hbc hbf hsc adK;obtain⟨HM0,amY⟩:=aj hM aa9;clear hM aa9 hZ hfr hcell hcs hm0 hl0 hfx Bh jc hR hc0 hc1 hc3 hc4 hc5 hc6;go_enter func47,ntmps47;go_upto_region 1 with fail
 have dX:=((Box.made w 27 #[.slice U1 m.uses.length u1,.slice T1 m.types.length e1,.slice (some ⟨bt,off,none⟩) m.funcs.length e2]).alloc (.cells #[.slice T3 own.types.length e3,.slice T4 own.funcs.length e4] 42));have dM:=(Box.made (w.alloc (.cells #[.slice U1 m.uses.length u1,.slice T1 m.types.length e1,.slice (some ⟨bt,off,none⟩) m.funcs.length e2] 27)) 42 #[.slice T3 own.types.length e3,.slice T4 own.funcs.length e4]);rw[show(w.alloc (.cells #[.slice U1 m.uses.length u1,.slice T1 m.types.length e1,.slice (some ⟨bt,off,none⟩) m.funcs.length e2] 27)).heap.size=w.heap.size+1 by simp only[World.size_alloc]]at dM;have hbb:Below w.heap.size w ((w.alloc (.cells #[.slice U1 m.uses.length u1,.slice T1 m.types.length e1,.slice (some ⟨bt,off,none⟩) m.funcs.length e2] 27)).alloc (.cells #[.slice T3 own.types.length e3,.slice T4 own.funcs.length e4] 42)):=by go_grown
 have hzb:((w.alloc (.cells #[.slice U1 m.uses.length u1,.slice T1 m.types.length e1,.slice (some ⟨bt,off,none⟩) m.funcs.length e2] 27)).alloc (.cells #[.slice T3 own.types.length e3,.slice T4 own.funcs.length e4] 42)).heap.size=w.heap.size+1+1:=by simp only[World.size_alloc]
 generalize(w.alloc (.cells #[.slice U1 m.uses.length u1,.slice T1 m.types.length e1,.slice (some ⟨bt,off,none⟩) m.funcs.length e2] 27)).alloc (.cells #[.slice T3 own.types.length e3,.slice T4 own.funcs.length e4] 42)=W1 at dX dM hbb hzb⊢;have x0:=dX.at_ 0 _ rfl;have x1:=dX.at_ 1 _ rfl;have x2:=dX.at_ 2 _ rfl;have hsg:=HSG.out W1 hbb;obtain⟨HB1,HB2,HB,acN,HZB⟩:=ay dX dM hbb hsg hzb;clear dX dM hbb hsg hzb;clear HSG;go_wp2_with fail;refine acN.out.mono ?_;rintro e W2 ⟨ds,rfl,hb2,hSr⟩;obtain⟨S,hS⟩:∃S,(dJ m l k).1=S:=⟨_,rfl⟩;obtain⟨z,hz⟩:∃z,(dJ m l k).2=z:=⟨_,rfl⟩;rw[hS]at hSr;rw[hz];obtain⟨pv,rfl,hSn,UC,hSp⟩:=hSr;obtain⟨A7,c7,rfl,_,_,hSl,_⟩:=hSp.form;have hB1:=HB1.out.later hb2 HB1.out.lt;have hB2:=HB2.out.later hb2 HB2.out.lt;have hbw:=aS HB.out hb2;have adG:w.heap.size+1+1≤W2.heap.size:=by have h1:=hb2.size;have:=HZB.out;omega
 obtain⟨HB1,HB2,cO,HSP,HS,HZ,agR⟩:=aB hB1 hB2 hbw hSp hS hz adG;clear hB1 hB2 hbw hSp hS hz adG;clear hb2 x0 x1 x2 acN;go_upto_region 2 with fail
 have hBs:=Box.made W2 62 #[.string S.name,.slice A7 S.params.length c7,.string S.result];have hbs:Below W2.heap.size W2 (W2.alloc (.cells #[.string S.name,.slice A7 S.params.length c7,.string S.result] 62)):=by go_grown
 have hzs:(W2.alloc (.cells #[.string S.name,.slice A7 S.params.length c7,.string S.result] 62)).heap.size=W2.heap.size+1:=by simp
 generalize W2.alloc (.cells #[.string S.name,.slice A7 S.params.length c7,.string S.result] 62)=W3 at hBs hbs hzs⊢;have hB1:=HB1.out.later hbs HB1.out.lt;have hB2:=HB2.out.later hbs HB2.out.lt;have hbw:=aS cO.out hbs;have hsp:=HSP.out.up aY.stays (fun _ h=>cZ _ h) hbs;have hlz:W2.heap.size<W3.heap.size:=by omega
 have hbw2:w.heap.size+1+1≤W2.heap.size:=by have:=agR.out;omega
 by_cases hz0:z=0
 case neg=>
  have he:=HBC.out z HZ.out hz0;subst he;have oq:=ah hbw;clear hbw;clear hB1 hB2 hBs hbs;go_wp2_with fail;go_ret;exact⟨rfl,oq.out⟩
 case pos=>
 subst hz0;have hSS:dJ m l k=(S,0):=Prod.ext HS.out HZ.out;have hcnt:=HSC.out S hSS;have hE:=HBF.out S hSS;have hL:=II hcnt;have hps:=aag (f:=f) (aap hsp);have hpt:=fun j p t h1 h2=>P6 (f:=f) (S:=S) (j:=j) (p:=p) (t:=t) h1 h2
 obtain⟨PS,hPS⟩:∃z,lu f S=z:=⟨_,rfl⟩;rw[hPS]at hL hps hpt hE;have his:=aej (m:=m) (l:=l) (own:=own) (mx:=mx) hps amY.out 10;obtain⟨E,hEE⟩:∃z,ZW m l own PS 10 f.body=z:=⟨_,rfl⟩;rw[hEE]at hE;have akY:=hbw.size;have hS8:S.params.length≤8:=by omega
 have anR:=hsp.cap;have hlt1:=hB1.lt;have hlt2:=hB2.lt;have hlts:=hBs.lt;have x0:=hB1.at_ 0 _ rfl;have x1:=hB1.at_ 1 _ rfl;have x2:=hB1.at_ 2 _ rfl;have y0:=hB2.at_ 0 _ rfl;have y1:=hB2.at_ 1 _ rfl;have ao7:=hPc;obtain⟨TM,HIS,HEE,HL,aav,Xw,amP,HE,Qz,HB1,HB2,fV⟩:=aI hpt his hEE hL hcnt hzs hps hE hBs hB1 hB2 hbw;have ahp:=ah hsp;clear hpt his hEE hL hcnt hzs hps hE hBs hB1 hB2 hbw hsp;clear hbs hSS hPS;go_upto_region 5 with fail
 have hBc:=Box.made W3 162 #[.slice U1 m.uses.length u1,.slice T1 m.types.length e1,.slice (some ⟨bt,off,none⟩) m.funcs.length e2,.slice L1 l.length l1,.slice T3 own.types.length e3,.slice T4 own.funcs.length e4,.slice none 0 0];have hbc:Below W3.heap.size W3 (W3.alloc (.cells #[.slice U1 m.uses.length u1,.slice T1 m.types.length e1,.slice (some ⟨bt,off,none⟩) m.funcs.length e2,.slice L1 l.length l1,.slice T3 own.types.length e3,.slice T4 own.funcs.length e4,.slice none 0 0] 162)):=by go_grown
 have hzc:(W3.alloc (.cells #[.slice U1 m.uses.length u1,.slice T1 m.types.length e1,.slice (some ⟨bt,off,none⟩) m.funcs.length e2,.slice L1 l.length l1,.slice T3 own.types.length e3,.slice T4 own.funcs.length e4,.slice none 0 0] 162)).heap.size=W3.heap.size+1:=by simp
 generalize W3.alloc (.cells #[.slice U1 m.uses.length u1,.slice T1 m.types.length e1,.slice (some ⟨bt,off,none⟩) m.funcs.length e2,.slice L1 l.length l1,.slice T3 own.types.length e3,.slice T4 own.funcs.length e4,.slice none 0 0] 162)=W4 at hBc hbc hzc⊢;have hB1:=HB1.out.later hbc hlt1;have hBs:=Qz.out.later hbc hlts;have hb4:=aS fV.out hbc;clear x0 x1 x2 y0 y1;have x2:=hB1.at_ 2 _ rfl;have k2:=(hb4.cell (p:=⟨bt,off+k*12+2,none⟩) hq3).trans hc2;have aij:(⟨W3.heap.size,6,none⟩:Addr).block=W3.heap.size:=rfl;obtain⟨HBC,apE,Ej,pY,alX,HZC⟩:=aA hBc hBs hB1 hb4 hbc hzc;clear hBc hBs hB1 hb4 hbc hzc;go_wp2_with fail;have aio:W3.heap.size<W4.heap.size:=HBC.out.lt;have agF:W3.heap.size≤W4.heap.size:=Nat.le_of_lt aio;obtain⟨ajU,ajV⟩:=aj aio agF;clear aio agF;clear x2 k2;go_loopg [12,13,37] f.params.length (fun gg s12 s13 s37 wr=>∃(jj n c:Nat) (A:Option Addr),jj≤f.params.length∧f.params.length-jj≤gg∧s37=.int .i64 jj∧Aside (n=jj)∧
  Aside (Box wr W3.heap.size 162 #[.slice U1 m.uses.length u1,.slice T1 m.types.length e1,.slice (some ⟨bt,off,none⟩) m.funcs.length e2,.slice L1 l.length l1,.slice T3 own.types.length e3,.slice T4 own.funcs.length e4,.slice A n c])∧
  Aside (aZ aW 2 100 W4.heap.size wr none_ (.slice A n c) (PS.take jj))∧Aside (Below W3.heap.size W3 wr))
 case atStart=>exact⟨0,0,0,none,Nat.zero_le _,by omega,rfl,aside rfl,aside HBC.out,aside aZ.nil_,aside alX.out⟩
 case round=>
  obtain⟨jj,n,c,A,hjj,hg,rfl,hn,hBx,hO,BW⟩:=hrel;obtain⟨wo,rfl⟩:∃W,W=wr:=⟨_,rfl⟩;have hbw:=aS fV.out BW.out;have hB1:=HB1.out.later BW.out HB1.out.lt;have hBs:=Qz.out.later BW.out Qz.out.lt
  by_cases hlt:jj<f.params.length
  ·have hltz:(jj:Int)<(f.params.length:Int):=by omega
   have hlts:jj<S.params.length:=by have:=aav.out;omega
   have apn:(jj:Int)<(S.params.length:Int):=by omega
   have hat:=HP.out.up aQ.stays eF hbw;obtain⟨bp,lF,cs,hP1,jc,hcs,hpr,hpc⟩:=hat.at_ (k:=jj) hlt;have hpx:=aK hlt;generalize f.params[jj]=p at hpx hpr;obtain⟨d1,d2,d3,d4,rfl,hpn,hpt⟩:=aQ.form hpr;obtain⟨A5,n5,hf⟩:=iD.form hpt;simp only[List.cons.injEq,and_true]at hf;obtain⟨rfl,rfl,rfl,rfl⟩:=hf;have q0:=hpc 0 _ rfl;have q1:=hpc 1 _ rfl;have q2:=hpc 2 _ rfl;have q3:=hpc 3 _ rfl;have q4:=hpc 4 _ rfl;simp only[Nat.add_zero]at q0;subst hP1;obtain⟨bs,YM,cs2,hA1,KT,hcs2,⟨rfl,htn⟩,hsc⟩:=(ahp.out.up aY.stays (fun _ h=>by have:=cZ _ h;omega) BW.out).at_ (k:=jj) hlts;have htx:=aK hlts;generalize S.params[jj]=t at htx htn hsc;have r1:=hsc 0 _ rfl;simp only[Nat.mul_one,Nat.add_zero]at r1;subst hA1;have hpt:=TM.out jj p t hpx htx;have hO2:aZ aW 2 100 W4.heap.size wo none_ (.slice A n c) (PS.take jj):=hO.out;have hlen:(PS.take jj).length=jj:=by rw[List.length_take,HL.out];omega
   obtain⟨L,hLd⟩:∃z,PS.take jj=z:=⟨_,rfl⟩;rw[hLd]at hO2 hlen hpt;obtain rfl:jj=n:=hn.out.symm;have akJ:bp<wo.heap.size:=by have:bp<w.heap.size:=jc;have:=hbw.size;omega
   have ahY:bs<wo.heap.size:=by have h1:=KT.2;have:=BW.out.size;omega
   go_upto_region 8 with fail
   have qP:=Box.made wo 78 #[.string p.name,.int .i64 p.dV.kind,.string p.dV.bT,.string p.dV.name,.slice A5 p.dV.args.length n5];have hbp:Below wo.heap.size wo (wo.alloc (.cells #[.string p.name,.int .i64 p.dV.kind,.string p.dV.bT,.string p.dV.name,.slice A5 p.dV.args.length n5] 78)):=by go_grown
   have hzp:(wo.alloc (.cells #[.string p.name,.int .i64 p.dV.kind,.string p.dV.bT,.string p.dV.name,.slice A5 p.dV.args.length n5] 78)).heap.size=wo.heap.size+1:=by simp
   generalize wo.alloc (.cells #[.string p.name,.int .i64 p.dV.kind,.string p.dV.bT,.string p.dV.name,.slice A5 p.dV.args.length n5] 78)=W5 at qP hbp hzp⊢;have QO:=hBs.later hbp hBs.lt;have hBx5:=hBx.out.later hbp hBx.out.lt;have hb5:=BW.out.trans (hbp.mono BW.out.size);have sF:=hO2.below aW.stays hbp;have r15:=(hbp.cell (p:=⟨bs,YM+jj,none⟩) ahY).trans r1;clear q0 q1 q2 q3 q4 r1;have q0:=qP.at_ 0 _ rfl;have y1:=QO.at_ 1 _ rfl;have x6:=hBx5.at_ 6 _ rfl;have g6:=hBx5.free 6;have hxl:=hBx5.lt;have h45:W4.heap.size≤W5.heap.size:=by have:=hb5.size;have h1:=BW.out.size;have:=HZC.out;have:=hBx.out.lt;rw[hzp];omega
   have HLEN:=ah hlen;clear hzp;have x6a:=(hBx5.alloc (.cells #[.string p.name,.string t] 100)).at_ 6 _ rfl;have y1a:=(QO.alloc (.cells #[.string p.name,.string t] 100)).at_ 1 _ rfl;obtain⟨amQ,xJ,kG,aeS⟩:=au hpt sF hb5 hBx5;clear hpt sF hb5 hBx5;clear hpc hsc hcs hcs2 jc KT hB1 hBs hO hat hpr hlen hn hLd hO2 hBx qP hbp QO BW hbw;go_region_law
    ((refine lK aW.stays (.agg #[.string ⟨#[]⟩,.string ⟨#[]⟩]) [.string p.name,.string t] ⟨p.name,t⟩ _ _ 39 rfl rfl underlying39 (bytes:=32) (by kernel_rfl) (show aZ aW 2 100 W4.heap.size _ none_ _ L from xJ.out.alloc aW.stays _) rfl rfl (by decide) rfl (heap_alloc_new _ _) rfl (show aW _ none_ _ _ from⟨rfl,hpn,htn⟩) (Iy (d:=⟨p.name,t⟩)) (fun k hk=>hk.elim) (by have:=HLEN.out;unfold maxLen;omega) (by have:=HLEN.out;omega) (by have:=h45;simp;omega) ?_);intro A6 c6 w6 ho6 hg6 _;have hX6:=hg6.box (Box.later (B:=W5.heap.size) aeS.out (by go_grown) hxl) ajU.out;have hb6:=kG.out.trans (hg6.below (B:=W3.heap.size) ajV.out (by simp;omega) |> fun h=>(show Below W3.heap.size W5 _ from by go_grown).trans h);clear x6 g6;have x6:=hX6.at_ 6 _ rfl;have g6:=hX6.free 6;have CQ:=Lib.hid hX6;have kH:=Lib.hid hb6;have uq:=Lib.hid ho6;clear hX6 hb6 ho6 hg6)
   all_goals
    (try go_wp2_with fail)
    go_roundg (f.params.length-(jj+1))
    case measure=>omega
    case rel=>
     refine⟨jj+1,L.length+1,c6,A6,by omega,by omega,by go_num,aside (by rw[HLEN.out]),aside ?_,aside ?_,aside (kH.out.setCell (p:=⟨W3.heap.size,6,none⟩) (aJ _) _)⟩
     ·have h:=CQ.out.put 6 (.slice A6 (L.length+1) c6);simpa using h
     ·rw[amQ.out];exact(aZ.wider aW.stays uq.out (F':=none_) (fun k hk=>hk.elim id id) (fun k hk=>hk.elim)).set aW.stays ajU.out (fun k hk=>hk.elim) _
  ·have hltz:¬(jj:Int)<(f.params.length:Int):=by omega
   obtain rfl:jj=f.params.length:=by omega
   have hpl:PS.length=f.params.length:=HL.out;have hO2:aZ aW 2 100 W4.heap.size wo none_ (.slice A n c) PS:=by have h:=hO.out;rwa [List.take_of_length_le (by omega)]at h
   have hsl:=hO2.slice aW.stays (jZ:=32) (F':=old wo.heap.size) (fun k hk=>hk.elim) (fun k h1 h2=>h2) (by omega) (by omega);have hn':n=PS.length:=by rw[hn.out,hpl]
   subst hn';have aij:vW wo W3.heap.size (old wo.heap.size) m l own PS U1 u1 T1 e1 (some ⟨bt,off,none⟩) e2 L1 l1 T3 e3 T4 e4 A c:=⟨hBx.out,dI aN.stays HM.out hbw,bK aU.stays HL0.out hbw,dI bD.stays HO.out hbw,hsl,eF⟩;have his:=HIS.out f.body W3.heap.size _ (old wo.heap.size) wo _ _ _ _ _ _ _ _ _ _ _ _ _ _ agY.out aij (dI dN.stays HX.out hbw) ((hbw.cell (World.block_lt_of_cell? w _ HM0.out)).trans HM0.out);rw[HEE.out]at his;have k2:=(hbw.cell (p:=⟨bt,off+k*12+2,none⟩) hq3).trans hc2;have k7:=(hbw.cell (p:=⟨bt,off+k*12+7,none⟩) hq3).trans QT;have k8:=(hbw.cell (p:=⟨bt,off+k*12+8,none⟩) hq3).trans hc8;have k9:=(hbw.cell (p:=⟨bt,off+k*12+9,none⟩) hq3).trans QU;have k10:=(hbw.cell (p:=⟨bt,off+k*12+10,none⟩) hq3).trans xZ;have k11:=(hbw.cell (p:=⟨bt,off+k*12+11,none⟩) hq3).trans yc;have x2:=hB1.at_ 2 _ rfl;obtain⟨acn,ajg,ag4⟩:=ak hBs hbw his;clear hBs hbw his;clear hB1 hO2 hsl hpl hn hO hBx aij hc2 QT hc8 QU xZ yc;obtain⟨R,zr⟩:=E;go_wp2_with fail;refine ag4.out.mono ?_;rintro e W6 ⟨rfl,hb6⟩;have hBs:=acn.out.later hb6 acn.out.lt;have hbx:=aS ajg.out hb6;have y2:=hBs.at_ 2 _ rfl;have oq:=ah hbx;clear hbx;clear hBs hb6 k2 k7 k8 k9 k10 k11 x2;have hE:=HE.out
   by_cases hr0:zr=0
   ·subst hr0;cases hq:iT R S.result with
    |true=>
     have he:=hE.trans (EC rfl hq);subst he;have hq1:(R.toList==S.result.toList)=true:=by rw[←Jw];exact hq
     have hq2:(R.toList !=S.result.toList)=false:=by simp[bne,hq1]
     clear hq hE;go_wp2_with fail;go_ret;exact⟨rfl,oq.out⟩
    |false=>
     have he:=hE.trans (Ie rfl hq);subst he;have hq1:(R.toList==S.result.toList)=false:=by rw[←Jw];exact hq
     have hq2:(R.toList !=S.result.toList)=true:=by simp[bne,hq1]
     clear hq hE;go_wp2_with fail;go_ret;exact⟨rfl,oq.out⟩
   ·have he:=hE.trans (Ic rfl hr0);have hrb:(zr==0)=false:=by simp[hr0]
    subst he;clear hE;go_wp2_with fail;go_ret;exact⟨rfl,oq.out⟩
end Go.Proofs.YtjaladhdnbhliaaGreatDoor
