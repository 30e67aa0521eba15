/- Parts. -/
import Derived.Test.YtjaladhdnbhliaaGreatDoorQTreeRead
import Derived.Sort.OwnSorted
import Derived.Lib.OwnBridge
set_option maxHeartbeats 8000000
set_option maxRecDepth 100000
namespace Go.Proofs.YtjaladhdnbhliaaGreatDoor
open Go.Proofs.Tryz
open Go.RowKit
open Go.Shelf
theorem afF{m:Module}(h:dD m=0):m.uses.length+m.types.length+m.funcs.length≤24:=by
 unfold dD at h
 by_cases ng:24<m.uses.length+m.types.length+m.funcs.length
 ·rw[if_pos ng]at h;cases h
 ·omega
theorem Ve{m:Module}(h:dD m=0):m.uses.length≤24∧∀s∈m.uses,aX s=true:=by
 have ng:=afF h;refine⟨by omega,fun s hs=>?_⟩;unfold dD at h;rw[if_neg (by omega)]at h;split at h
 ·next hu=>exact absurd h hu
 ·next hu=>
  have:=iZ (Classical.not_not.1 hu) s hs;unfold qJ at this;split at this
  ·assumption
  ·cases this
theorem DW(s:ByteArray):dD (kF s).1=0:=by
 by_cases h15:1500<s.size
 ·rw[H6 h15];rfl
 ·cases hp:mG jJ (iP s.data.toList)with
  |error e=>rw[Me (by omega) hp];rfl
  |ok m=>
   by_cases hm:dD m=0
   ·rw[RU (by omega) hp hm];exact hm
   ·rw[DX (by omega) hp hm];rfl
def dA(m:Module)(l:List Import)(v:ByteArray)(t:Ty):ByteArray×Int:=bW m l 300 v [] t
def vY(t:ByteArray)(x:Func):Bool:=iT x.name t
def nR(m:Module)(l:List Import)(f:Func)(k:Nat):Int:=match f.params[k]? with
 |some p=>if(f.params.take k).any (bU p.name)=true then 4 else(dA m l f.dH p.dV).2
 |none=>0
def jD(m:Module)(l:List Import)(f:Func)(p:Field):ByteArray:=(dA m l f.dH p.dV).1
def dJ(m:Module)(l:List Import)(k:Nat):kR×Int:=match m.funcs[k]? with
 |some f=>
  if(m.funcs.take k).any (vY f.name)=true then(FC,4)
  else if gV (nR m l f) f.params.length≠0 then(FC,gV (nR m l f) f.params.length)
  else if(dA m l f.dH f.result).2≠0 then(FC,(dA m l f.dH f.result).2)
  else(⟨f.name,f.params.map (jD m l f),(dA m l f.dH f.result).1⟩,0)
 |none=>(FC,0)
section
variable {m:Module} {l:List Import} {k j:Nat} {f:Func} {p:Field} {z:Int}
theorem VA(hf:m.funcs[k]? =some f)(h:(m.funcs.take k).any (vY f.name)=true):dJ m l k=(FC,4):=by
 unfold dJ;rw[hf];simp only;rw[if_pos h]
theorem aal(hf:m.funcs[k]? =some f)(h:(m.funcs.take k).any (vY f.name)=false)(hj:j<f.params.length)(h0:∀i,i<j→nR m l f i=0)(hz:nR m l f j=z)(hz0:z≠0):dJ m l k=(FC,z):=by
 unfold dJ;rw[hf];simp only;rw[if_neg (by simp[h]),mZ hj h0 (by rw[hz];exact hz0),hz,if_pos hz0]
theorem aam(hf:m.funcs[k]? =some f)(h:(m.funcs.take k).any (vY f.name)=false)(h0:∀i,i<f.params.length→nR m l f i=0)(hz:(dA m l f.dH f.result).2=z)(hz0:z≠0):dJ m l k=(FC,z):=by
 unfold dJ;rw[hf];simp only;rw[if_neg (by simp[h]),fK h0,if_neg (by simp),hz,if_pos hz0]
theorem Vz(hf:m.funcs[k]? =some f)(h:(m.funcs.take k).any (vY f.name)=false)(h0:∀i,i<f.params.length→nR m l f i=0)(hz:(dA m l f.dH f.result).2=0):dJ m l k=(⟨f.name,f.params.map (jD m l f),(dA m l f.dH f.result).1⟩,0):=by
 unfold dJ;rw[hf];simp only;rw[if_neg (by simp[h]),fK h0,if_neg (by simp),if_neg (by simp[hz])]
theorem LQ(hp:f.params[j]? =some p)(h:(f.params.take j).any (bU p.name)=true):nR m l f j=4:=by
 unfold nR;rw[hp];simp only;rw[if_pos h]
theorem Hr(hp:f.params[j]? =some p)(h:(f.params.take j).any (bU p.name)=false):nR m l f j=(dA m l f.dH p.dV).2:=by
 unfold nR;rw[hp];simp only;rw[if_neg (by simp[h])]
theorem Vw{α:Type}{f:Nat→α}{x:α}(h:∀i,i<j→f i=x)(hj:f j=x):∀i,i<j+1→f i=x:=by
 intro i hi
 by_cases e:i=j
 ·rw[e];exact hj
 ·exact h i (by omega)
end
theorem Qk(m:Module)(l:List Import)(hm0:dD m=0)(hl0:bG l=0):∀n,Zz m l n
 |0=>by
  intro f v us t b U1 T1 T2 L1 S1 u1 e1 e2 l1 s1 cs w ht hf hn;obtain rfl:f=0:=by omega
  exact absurd ht (by unfold dn;decide)
 |n+1=>by
  have ih:=Qk m l hm0 hl0 n;intro f v us t b U1 T1 T2 L1 S1 u1 e1 e2 l1 s1 cs w ht hf hn hu hv hm hl hus hB htr;cases f with
  |zero=>exact absurd ht (by unfold dn;decide)
  |succ f=>
  obtain⟨k,o,nm,args⟩:=t;obtain⟨av,rfl,ho,hnm,hav⟩:∃av,cs= [.int .i64 k,.string o,.string nm,av]∧okS o∧okS nm∧SliceOf iD 4 64 w (old w.heap.size) av args:=by
   obtain⟨d,htr⟩:=htr;cases d with
   |zero=>exact htr.elim
   |succ d=>
    obtain⟨av,rfl,_,h1,h2,h3⟩:=htr;exact⟨av,rfl,h1,h2,h3.aea fun _ _ h=>⟨d,h⟩⟩
  clear htr;obtain⟨A,cap,rfl,_,_,hlen,_⟩:=hav.form;have hB0:=hB.lt;have hst:=nH hl0;have x0:=hB.at_ 0 _ rfl;have x1:=hB.at_ 1 _ rfl;have x2:=hB.at_ 2 _ rfl;have x3:=hB.at_ 3 _ rfl;have x4:=hB.at_ 4 _ rfl;have x5:=hB.at_ 5 _ rfl;rcases I4 ht with rfl|rfl|⟨rfl,a,rfl,hta⟩|⟨rfl,hno⟩
  ·rw[Ql];clear ht hn ih hm hl hus hav hB hst;go_enter func154,ntmps154;go_wp2_with fail
   go_ret2
   exact⟨rfl,by go_grown⟩
  ·rw[MQ];clear ht hn ih hm hl hus hav hB hst;go_enter func154,ntmps154;go_wp2_with fail
   go_ret2
   exact⟨rfl,by go_grown⟩
  ·rw[MN];obtain⟨b1,off,cs,rfl,jc,hcs,hra,hcell⟩:=hav.at_ (k:=0) (by simp);obtain⟨A2,n2,rfl⟩:=iD.form hra;have hc0:=hcell 0 _ rfl;have hc1:=hcell 1 _ rfl;have hc2:=hcell 2 _ rfl;have hc3:=hcell 3 _ rfl;simp only[Nat.add_zero]at hc0;simp only[Nat.zero_mul,Nat.add_zero]at hc0 hc1 hc2 hc3;have hlb:b1<w.heap.size:=jc;have hca:=fun U (hU:Below w.heap.size w U)=>ih f v us a b U1 T1 T2 L1 S1 u1 e1 e2 l1 s1 _ U hta (by omega) (by omega) hu hv (dI aN.stays hm hU) (bK aU.stays hl hU) (bK aY.stays hus hU) (hB.later hU hB.lt) (dI iD.stays hra hU)
   have hsm:=oU (m:=m) hst n v us a;simp only[List.getElem_cons_zero]at*;generalize bW m l n v us a=r at*;obtain⟨S,C⟩:=r;dsimp only at hca hsm⊢;have hlo:=fun W=>LK S W (by omega)
   generalize kK S=X at hlo⊢;generalize jH S=Y at hlo⊢;obtain⟨E,hE⟩:∃E,(if C≠0 then((⟨#[]⟩:ByteArray),C)else if X≠0 then(⟨#[]⟩,5)else(Y,0))=E:=⟨_,rfl⟩;rw[hE];obtain⟨Zp,HLO,HE⟩:=ak hca hlo hE;clear hca hlo hE;clear ht hn ih hm hl hus hav hB hst hcell hra hsm;go_enter func154,ntmps154;go_wp2_with fail;refine(Zp.out _ (by go_grown)).mono ?_;rintro e W2 ⟨rfl,hb2⟩;have hbw:Below w.heap.size w W2:=Below.trans (by go_grown) (hb2.mono (by simp<;>omega));have cO:=ah hbw;clear hbw;clear hb2
   by_cases hC:C=0
   ·subst hC;go_wp2_with fail;refine(HLO.out _).mono ?_;rintro e W3 ⟨rfl,rfl⟩
    by_cases hX:X=0
    ·subst hX;obtain rfl:E=(Y,0):=by rw[←HE.out,if_neg (by simp),if_neg (by simp)]
     go_wp2_with fail
     go_ret2
     exact⟨rfl,cO.out⟩
    ·obtain rfl:E=(⟨#[]⟩,5):=by rw[←HE.out,if_neg (by simp),if_pos hX]
     have hXz:(X==0)=false:=by simp[hX]
     go_wp2_with fail
     go_ret2
     exact⟨rfl,cO.out⟩
   ·obtain rfl:E=(⟨#[]⟩,C):=by rw[←HE.out,if_pos hC]
    have hCz:(C==0)=false:=by simp[hC]
    go_wp2_with fail
    go_ret2
    exact⟨rfl,cO.out⟩
  ·have hnp:=DR hno
   by_cases ho0:o.size=0
   ·obtain rfl:o=⟨#[]⟩:=by
     apply data_inj;have h0:o.data.toList.length=0:=by simpa using ho0
     rw[List.length_eq_zero_iff.1 h0]
    by_cases hv0:nm=v
    ·subst hv0;rw[Qm rfl rfl];have hq:(nm.toList==nm.toList)=true:=by simp
     clear ht hn ih hm hl hus hav hst;go_enter func154,ntmps154;go_upto_region 19 with fail
     have hBt:=Box.made w 75 #[.int .i64 4,.string ⟨#[]⟩,.string nm,.slice A args.length cap];have hbt:Below w.heap.size w (w.alloc (.cells #[.int .i64 4,.string ⟨#[]⟩,.string nm,.slice A args.length cap] 75)):=by go_grown
     have pW:(w.alloc (.cells #[.int .i64 4,.string ⟨#[]⟩,.string nm,.slice A args.length cap] 75)).heap.size=w.heap.size+1:=by simp
     generalize w.alloc (.cells #[.int .i64 4,.string ⟨#[]⟩,.string nm,.slice A args.length cap] 75)=W1 at hBt hbt pW⊢;have hBs:=hB.later hbt hB.lt;have s4:=hBs.at_ 4 _ rfl;have t2:=hBt.at_ 2 _ rfl;have OE:=ah hbt;clear hbt;clear hBs hBt pW hB;go_quiet(fail);go_wp2_with fail
     go_ret2
     exact⟨rfl,below_drewN OE.out _⟩
    ·exact ML m l hm0 n f ih v us nm args A cap b U1 T1 T2 L1 S1 u1 e1 e2 l1 s1 w hv0 hnm hn hu hm hl hus hB
   ·exact Oi m l hl0 n v us o nm args A cap b U1 T1 T2 L1 S1 u1 e1 e2 l1 s1 w ho0 hm hl hB
theorem Np(m:Module)(t:ByteArray)(cs:List Value)(F:aV)(w:World)(hF:∀k,F k→k<w.heap.size)(hm:aN w F cs m):
  Calls prog 103 #[.agg cs.toArray,.string t] w fun e w'=>e=.returned (.int .i64 (fidx (bU t) m.types))∧Below w.heap.size w w':=by
 obtain⟨U1,u1,T1,e1,T2,e2,rfl,_,hT,_⟩:=aN.form hm;obtain⟨_,_,_,_,_,hl1,_⟩:=hT.form;have HT:=ah hT;clear hm hT;go_enter func103,ntmps103;go_upto_region 1 with fail
 have hBm:=Box.made w 27 #[.slice U1 m.uses.length u1,.slice T1 m.types.length e1,.slice T2 m.funcs.length e2];have hbm:Below w.heap.size w (w.alloc (.cells #[.slice U1 m.uses.length u1,.slice T1 m.types.length e1,.slice T2 m.funcs.length e2] 27)):=by go_grown
 have hzm:(w.alloc (.cells #[.slice U1 m.uses.length u1,.slice T1 m.types.length e1,.slice T2 m.funcs.length e2] 27)).heap.size=w.heap.size+1:=by simp
 generalize w.alloc (.cells #[.slice U1 m.uses.length u1,.slice T1 m.types.length e1,.slice T2 m.funcs.length e2] 27)=W1 at hBm hbm hzm⊢;have m1:=hBm.at_ 1 _ rfl;have hT:=HT.out.stays aQ.stays (fun _ h=>h) (Keeps.of_below hbm hF);obtain⟨HB,HT,HBm⟩:=ak hbm hT hBm;clear hbm hT hBm;clear hzm;go_wp2_with fail;go_loopg [5] m.types.length (fun gg s5 wr=>∃kk:Nat,kk≤m.types.length∧m.types.length-kk≤gg∧s5=.int .i64 kk∧wr=W1∧Aside (∀j,j<kk→∀y,m.types[j]? =some y→bU t y=false))
 case atStart=>exact⟨0,Nat.zero_le _,by omega,rfl,rfl,(show Aside _ from fun j hj=>absurd hj (Nat.not_lt_zero _))⟩
 case round=>
  obtain⟨kk,hkk,hg,rfl,rfl,A1⟩:=hrel
  by_cases hlt:kk<m.types.length
  ·have hltz:(kk:Int)<(m.types.length:Int):=by omega
   obtain⟨b,off,cs,rfl,hb,hcs,hr,hcell⟩:=HT.out.at_ hlt;obtain⟨y1,y2,y3,y4,rfl,_,_⟩:=aQ.form hr;have hc0:=hcell 0 _ rfl;simp only[Nat.add_zero]at hc0;clear hcell hr hb hcs;have hfi:bU t m.types[kk]=(m.types[kk].name.toList==t.toList):=by
    unfold bU iT;simp
   cases hq:(m.types[kk].name.toList==t.toList)with
   |true=>
    have HQ:=Lib.hid (hfi.trans hq);clear hfi;go_wp2;go_ret;exact⟨by rw[qV hlt HQ.out A1.out];rfl,HB.out⟩
   |false=>
    have HQ:=Lib.hid (hfi.trans hq);clear hfi;go_wp2;go_roundg (m.types.length-(kk+1))
    case measure=>omega
    case rel=>exact⟨kk+1,by omega,by omega,by go_num,rfl,(show Aside _ from nG hlt HQ.out A1.out)⟩
  ·have hltz:¬(kk:Int)<(m.types.length:Int):=by omega
   obtain rfl:kk=m.types.length:=by omega
   go_wp2;go_ret;exact⟨by rw[oK A1.out];rfl,HB.out⟩
theorem zI(m:Module)(l:List Import)(hm0:dD m=0)(hl0:bG l=0)(f:Nat)(v:ByteArray)(t:Ty)(ds cs:List Value)(lv:Value)(w:World)(ht:dn f t=0)(hf:f≤10)(hv:okS v)
  (hm:aN w (old w.heap.size) ds m) (hl:SliceOf aU 4 72 w (old w.heap.size) lv l) (htr:iD w (old w.heap.size) cs t):
  Calls prog 92 #[.agg ds.toArray,lv,.string v,.agg cs.toArray] w fun e w'=>e=.returned (.tuple #[.string (dA m l v t).1,.int .i64 (dA m l v t).2])∧Below w.heap.size w w':=by
 obtain⟨U1,u1,T1,e1,T2,e2,rfl,_⟩:=aN.form hm;obtain⟨L1,l1,rfl,_⟩:=hl.form;obtain⟨A2,n2,rfl⟩:=iD.form htr;have hfree:lM m []≤24:=by
  have h1:=gJ hm0;have h2:lM m []≤m.types.length:=List.countP_le_length;omega
 have hca:=fun nb U (hU:Below w.heap.size w U) (hb:Box U nb 214 #[.slice U1 m.uses.length u1,.slice T1 m.types.length e1,.slice T2 m.funcs.length e2,.slice L1 l.length l1,.string v,.slice none 0 0])=>
  Qk m l hm0 hl0 300 f v [] t nb U1 T1 T2 L1 none u1 e1 e2 l1 0 _ U ht hf (by omega) (by simp;omega) hv (dI aN.stays hm hU) (bK aU.stays hl hU) SliceOf.nil_ hb (dI iD.stays htr hU)
 unfold dA;generalize bW m l 300 v [] t=r at hca⊢;obtain⟨S,C⟩:=r;dsimp only at hca⊢;have Zp:=ah hca;clear hca;clear hm hl htr ht hf hm0 hl0 hfree hv;go_enter func92,ntmps92;go_upto_region 1 with fail
 have nU:=((Box.made w 27 #[.slice U1 m.uses.length u1,.slice T1 m.types.length e1,.slice T2 m.funcs.length e2]).alloc (.cells #[.int .i64 t.kind,.string t.bT,.string t.name,.slice A2 t.args.length n2] 75));have jL:=(Box.made (w.alloc (.cells #[.slice U1 m.uses.length u1,.slice T1 m.types.length e1,.slice T2 m.funcs.length e2] 27)) 75 #[.int .i64 t.kind,.string t.bT,.string t.name,.slice A2 t.args.length n2]);rw[show(w.alloc (.cells #[.slice U1 m.uses.length u1,.slice T1 m.types.length e1,.slice T2 m.funcs.length e2] 27)).heap.size=w.heap.size+1 by simp only[World.size_alloc]]at jL;have hbm:Below w.heap.size w ((w.alloc (.cells #[.slice U1 m.uses.length u1,.slice T1 m.types.length e1,.slice T2 m.funcs.length e2] 27)).alloc (.cells #[.int .i64 t.kind,.string t.bT,.string t.name,.slice A2 t.args.length n2] 75)):=by go_grown
 have hzm:((w.alloc (.cells #[.slice U1 m.uses.length u1,.slice T1 m.types.length e1,.slice T2 m.funcs.length e2] 27)).alloc (.cells #[.int .i64 t.kind,.string t.bT,.string t.name,.slice A2 t.args.length n2] 75)).heap.size=w.heap.size+1+1:=by simp only[World.size_alloc]
 generalize(w.alloc (.cells #[.slice U1 m.uses.length u1,.slice T1 m.types.length e1,.slice T2 m.funcs.length e2] 27)).alloc (.cells #[.int .i64 t.kind,.string t.bT,.string t.name,.slice A2 t.args.length n2] 75)=W1 at nU jL hbm hzm⊢;have m0:=nU.at_ 0 _ rfl;have m1:=nU.at_ 1 _ rfl;have m2:=nU.at_ 2 _ rfl;have t0:=jL.at_ 0 _ rfl;have t1:=jL.at_ 1 _ rfl;have t2:=jL.at_ 2 _ rfl;have t3:=jL.at_ 3 _ rfl;have hlt2:=jL.lt;have HB:=ah hbm;clear hbm;clear hzm nU jL;go_wp2_with fail;refine(Zp.out W1.heap.size _ (HB.out.alloc HB.out.size _) (Box.made _ _ _)).mono ?_;rintro e W2 ⟨rfl,hb2⟩;have hbw:Below w.heap.size w W2:=(HB.out.alloc HB.out.size _).trans (hb2.mono (HB.out.alloc HB.out.size _).size);have cO:=ah hbw;clear hbw;clear hb2;go_wp2_with fail
 go_ret2
 exact⟨rfl,cO.out⟩
end Go.Proofs.YtjaladhdnbhliaaGreatDoor
