/- Parts. -/
import Derived.Test.YtjaladhdnbhliaaGreatDoorQTypeAll
import Derived.Test.YtjaladhdnbhliaaGreatDoorQSolved
import Derived.Stop.LaidErr
set_option maxHeartbeats 2000000
set_option maxRecDepth 100000
namespace Go.Proofs.YtjaladhdnbhliaaGreatDoor
open Go.Proofs.Tryz
open Go.RowKit
theorem ad1{s:ByteArray}(h:aP s=0):0<s.size∧s.size≤600∧Ib (strip s)=true:=by
 unfold aP at h;split at h
 ·cases h
 ·next h6=>
  split at h
  ·next hb=>
   refine⟨Nat.pos_of_ne_zero fun e=>?_,by omega,hb⟩;have hn:elemOf s=none:=by
    cases he:elemOf s with
    |none=>rfl
    |some t=>have:=dK he;omega
   rw[uU hn]at hb;have hl:s.toList= []:=by rw[ByteArray.toList_eq];exact List.length_eq_zero_iff.1 (by rw[Array.length_toList];exact e)
   unfold Ib at hb;rw[hl]at hb;exact absurd hb (by decide)
  ·cases h
theorem UZ{s:ByteArray}(h:aP s=0)(hs:s.size≤598):aP (listOf s)=0:=by
 obtain⟨h0,_,hb⟩:=ad1 h;have hz:(listOf s).size≤600:=by
  unfold listOf;simp[ByteArray.size_append]
  show 1+s.size+1≤600
  omega
 unfold aP;rw[if_neg (by omega),uV (Um h0),hb,if_pos rfl]
theorem Ry{s:ByteArray}(h:kK s=0):aP (jH s)=0∧gG (jH s)=gG s:=by
 unfold kK at h
 by_cases h0:aP s=0
 ·rw[if_pos h0]at h
  by_cases h1:598<s.size
  ·rw[if_pos h1]at h;cases h
  ·unfold jH;rw[if_pos h0,if_neg h1];exact⟨UZ h0 (by omega),Vk s⟩
 ·rw[if_neg h0]at h;exact absurd h h0
def QE(l:List Import):Prop:=∀x∈l,∀y∈x.face.types,eY y=0
theorem Rj{l:List Import}(h:bG l=0):∀x∈l,fF x.face=0:=by
 intro x hx;unfold bG at h
 by_cases ng:24<l.length
 ·rw[if_pos ng]at h;cases h
 ·rw[if_neg ng]at h;have hb:=ny (gq h) x hx;refine Classical.byContradiction fun hne=>?_
  by_cases hn:aX x.name=false
  ·rw[l9 hn]at hb;exact absurd hb (by decide)
  ·rw[l7 (by simpa using hn) rfl hne]at hb;exact hne hb
theorem Rn{l:List Import}(h:bG l=0):QE l:=fun x hx=>(oJ (Rj h x hx)).2.2.1
theorem YE{y:Known}(h:eY y=0):aP y.dV=0∧gG y.dV=false:=by
 unfold eY at h;split at h
 ·next hh=>
  simp only[Bool.and_eq_true,decide_eq_true_eq,Bool.not_eq_true']at hh;exact hh.2
 ·cases h
theorem VW{m:Module}{l:List Import}{o nm:ByteArray}(h:QE l)(h0:(iO (bZ m l o).types nm).2=0):aP (iO (bZ m l o).types nm).1=0∧gG (iO (bZ m l o).types nm).1=false:=by
 unfold iO at h0⊢;split at h0
 ·next x hx=>
  unfold bZ at hx;split at hx
  ·next y hy=>exact YE (h y (KJ hy) x (List.mem_of_find?_eq_some hx))
  ·cases hx
 ·cases h0
theorem D6{m:Module}{l:List Import}(hk:QE l)(hm:∀x∈m.types,dn 10 x.dV=0):∀(n f:Nat) (v:ByteArray) (us:List ByteArray) (t:Ty),dn f t=0→f≤10→f+11*lM m us≤n→(bW m l n v us t).2=0→
  aP (bW m l n v us t).1=0∧(v.size=0→gG (bW m l n v us t).1=false)
 |0,0,_,_,_,h,_,_,_=>by cases h
 |0,f+1,_,_,_,_,_,h,_=>by omega
 |_+1,0,_,_,_,h,_,_,_=>by cases h
 |n+1,f+1,v,us,.mk k o nm args,h,hf,h1,h2=>by
  have ih:=fun v a (h:dn f a=0)=>D6 hk hm n f v us a h (by omega) (by omega)
  have hlist:k=3→∃a,args= [a]∧dn f a=0:=by
   rintro rfl;unfold dn at h;rw[if_neg (by omega),if_pos rfl]at h
   match args,h with
   |[a],h=>
    simp only at h;split at h
    ·exact⟨a,rfl,h⟩
    ·cases h
   |[],h=>cases h
   |_::_::_,h=>cases h
  have hname:k≠1→k≠2→k≠3→k=4∧aX nm=true:=by
   intro a1 a2 a3;unfold dn at h
   by_cases hk4:k<1∨4<k
   ·rw[if_pos hk4]at h;cases h
   ·rw[if_neg hk4,if_neg a3]at h
    by_cases hz:args.length≠0
    ·rw[if_pos hz]at h;cases h
    ·have e4:k=4:=by omega
     rw[if_neg hz,if_pos e4]at h
     by_cases hh:aX nm=true∧(o.size=0∨aX o=true)
     ·exact⟨e4,hh.1⟩
     ·rw[if_neg hh]at h;cases h
  unfold bW at h2⊢
  by_cases k1:k=1
  ·rw[if_pos k1];exact⟨by decide +kernel,fun _=>by decide +kernel⟩
  rw[if_neg k1]at h2⊢
  by_cases k2:k=2
  ·rw[if_pos k2];exact⟨by decide +kernel,fun _=>by decide +kernel⟩
  rw[if_neg k2]at h2⊢
  by_cases k3:k=3
  ·obtain⟨a,rfl,ha⟩:=hlist k3;rw[if_pos k3]at h2⊢;dsimp only at h2⊢
   by_cases c1:(bW m l n v us a).2≠0
   ·rw[if_pos c1]at h2;exact absurd h2 c1
   rw[if_neg c1]at h2⊢
   by_cases c2:kK (bW m l n v us a).1≠0
   ·rw[if_pos c2]at h2;cases h2
   rw[if_neg c2];obtain⟨i1,i2⟩:=ih v a ha (Classical.not_not.1 c1);obtain⟨j1,j2⟩:=Ry (Classical.not_not.1 c2);exact⟨j1,fun hv=>by rw[j2];exact i2 hv⟩
  rw[if_neg k3]at h2⊢;obtain⟨rfl,hnm⟩:=hname k1 k2 k3
  by_cases ho:o.size≠0
  ·rw[if_pos ho]at h2⊢
   by_cases c:ku m l o=true∧(iO (bZ m l o).types nm).2=0
   ·rw[if_pos c];obtain⟨i1,i2⟩:=VW hk c.2;exact⟨i1,fun _=>i2⟩
   ·rw[if_neg c]at h2;cases h2
  rw[if_neg ho]at h2⊢
  by_cases hv:nm=v
  ·rw[if_pos hv];refine⟨by decide +kernel,fun hz=>?_⟩;subst hv;exact absurd hz (DR hnm)
  rw[if_neg hv]at h2⊢;cases hfd:m.types.find? (bU nm)with
  |none=>rw[hfd]at h2;cases h2
  |some fl=>
   rw[hfd]at h2;simp only at h2⊢;cases hu:o9 us nm with
   |true=>rw[hu,if_pos rfl]at h2;cases h2
   |false=>
    rw[hu,if_neg (by decide)]at h2;rw[if_neg (by decide)];have:=Gy hfd hu;obtain⟨i1,i2⟩:=D6 hk hm n 10 ⟨#[]⟩ _ _ (hm fl (List.mem_of_find?_eq_some hfd)) (aJ _) (by omega) h2;exact⟨i1,fun _=>i2 rfl⟩
theorem afg(m:Module)(us:List ByteArray):lM m us≤m.types.length:=List.countP_le_length
theorem PU{m:Module}(h:dD m=0):∀x∈m.types,aX x.name=true∧dn 10 x.dV=0:=fun x hx=>lI (iZ (mod_zero h).1 x hx)
theorem yJ{m:Module}{l:List Import}(hm0:dD m=0)(hl0:bG l=0){v:ByteArray}{t:Ty}(ht:dn 10 t=0)(h:(dA m l v t).2=0):aP (dA m l v t).1=0∧(v.size=0→gG (dA m l v t).1=false):=by
 have ng:=gJ hm0;have hfl:=afg m [];exact D6 (Rn hl0) (fun x hx=>(PU hm0 x hx).2) 300 10 v [] t ht (aJ _) (by omega) h
theorem Lr{α:Type}{name:α→ByteArray}{bad:α→Int}{l:List α}(hs:Sorted name l)(hb:∀x∈l,bad x=0):gV (dQ name bad l) l.length=0:=fK fun j hj=>by
 have hx:=aK hj;have hbx:=hb _ (List.getElem_mem hj)
 by_cases h0:j=0
 ·subst h0;exact jv hx hbx
 ·have hy:=aK (show j-1<l.length by omega);rw[jS (by omega) hx hy hbx,if_pos];exact List.pairwise_iff_getElem.1 hs (j-1) j (by omega) hj (by omega)
theorem Ou{m:Module}{l:List Import}(hm0:dD m=0)(hl0:bG l=0):∀x∈typesOf m l,eY x=0:=fun x hx=>by
 have hx:=(rC _).mem_iff.1 hx;obtain⟨i,f,hi,hf,hc,rfl⟩:=Pq _ x hx;have hft:=PU hm0 f (List.mem_of_getElem? hf);have hz:(dA m l ⟨#[]⟩ (mF f.name)).2=0:=by
  cases hs:(m.types.take i).any (bU f.name)with
  |true=>rw[qQ hf hs]at hc;cases hc
  |false=>rw[yN hf hs]at hc;exact hc
 obtain⟨h1,h2⟩:=yJ hm0 hl0 (Aw hft.1) hz;unfold eY;dsimp only;rw[hft.1,h1,h2 rfl]
 rfl
theorem abO{m:Module}{l:List Import}{k:Nat}{f:Func}(hf:m.funcs[k]? =some f)(h:(dJ m l k).2=0):(dJ m l k).1=⟨f.name,f.params.map (jD m l f),(dA m l f.dH f.result).1⟩∧(∀p∈f.params,(dA m l f.dH p.dV).2=0)∧(dA m l f.dH f.result).2=0:=by
 unfold dJ at h⊢;rw[hf]at h⊢;simp only at h⊢
 by_cases h1:(m.funcs.take k).any (vY f.name)=true
 ·rw[if_pos h1]at h;cases h
 ·rw[if_neg h1]at h⊢
  by_cases h2:gV (nR m l f) f.params.length≠0
  ·rw[if_pos h2]at h;exact absurd h h2
  ·rw[if_neg h2]at h⊢
   by_cases h3:(dA m l f.dH f.result).2≠0
   ·rw[if_pos h3]at h;exact absurd h h3
   ·rw[if_neg h3];refine⟨rfl,fun p hp=>?_,Classical.not_not.1 h3⟩;obtain⟨j,hj,rfl⟩:=List.mem_iff_getElem.1 hp;have hz:=gq (Classical.not_not.1 h2) j hj;have hpj:=aK hj;cases hs:(f.params.take j).any (bU f.params[j].name)with
    |true=>rw[LQ hpj hs]at hz;cases hz
    |false=>rw[Hr hpj hs]at hz;exact hz
theorem VH{m:Module}{l:List Import}(hm0:dD m=0)(hl0:bG l=0)(n:Nat):∀x∈iY m l n,kP x=0:=fun x hx=>by
 unfold iY at hx;obtain⟨i,hi,hx⟩:=List.mem_flatMap.1 hx;unfold vK at hx;split at hx
 ·next f hf=>
  split at hx
  ·next h0=>
   obtain rfl:x=_:=by simpa using hx
   obtain⟨h1,h2,h3⟩:=abO hf h0;have hfe:=iZ (mod_zero hm0).2 f (List.mem_of_getElem? hf);obtain⟨g1,g2,g3,g4,g5,g6⟩:aX f.name=true∧f.params.length≤8∧(∀p∈f.params,dn 10 p.dV=0)∧dn 10 f.result=0∧True∧True:=by
    unfold jg at hfe;split at hfe
    ·cases hfe
    ·next hn=>
     split at hfe
     ·cases hfe
     ·next h8=>
      split at hfe
      ·next hp=>exact absurd hfe hp
      ·next hp=>
       split at hfe
       ·next hr=>exact absurd hfe hr
       ·next hr=>
        refine⟨?_,by omega,fun p hp'=>(lI (iZ (Classical.not_not.1 hp) p hp')).2,Classical.not_not.1 hr,trivial,trivial⟩;cases e:aX f.name with
        |true=>rfl
        |false=>exact absurd (.inl e) hn
   have hres:=(yJ hm0 hl0 g4 h3).1;rw[h1];unfold kP;dsimp only;have hpar:(f.params.map (jD m l f)).any jE=false:=by
    rw[List.any_eq_false];intro s hs;obtain⟨p,hp,rfl⟩:=List.mem_map.1 hs;have:=(yJ hm0 hl0 (g3 p hp) (h2 p hp)).1;unfold jE jD;rw[this];decide
   rw[g1,hres,hpar,List.length_map,decide_eq_true g2]
   rfl
  ·simp at hx
 ·simp at hx
theorem zT{m:Module}{l:List Import}(hm0:dD m=0)(hl0:bG l=0):fF (lY m l)=0:=by
 have ng:=gJ hm0;have h1:(typesOf m l).length≤m.types.length:=by unfold typesOf;rw[iC];exact wZ _
 have h2:(jf kR.name (iY m l m.funcs.length)).length≤m.funcs.length:=by rw[iC];exact xB _
 have ht:pV (typesOf m l)=0:=Lr (wC (xW _)) (Ou hm0 hl0);have hf:zX (jf kR.name (iY m l m.funcs.length))=0:=Lr (wC (yI _)) fun x hx=>VH hm0 hl0 _ x ((rC _).mem_iff.1 hx)
 unfold fF lY;dsimp only;rw[if_neg (by omega),if_pos ht,hf]
open Go.Shelf
theorem MX(m:Module)(l:List Import)(hm0:dD m=0)(hl0:bG l=0):∀n,J3 m l n
 |0=>by
  intro f v us t U1 T1 T2 L1 S1 u1 e1 e2 l1 s1 cs w ht hf hn;obtain rfl:f=0:=by omega
  exact absurd ht (by unfold dn;decide)
 |n+1=>by
  have ih:=MX m l hm0 hl0 n;intro f v us t U1 T1 T2 L1 S1 u1 e1 e2 l1 s1 cs w ht hf hn hu hm hl hus htr;cases f with
  |zero=>exact absurd ht (by unfold dn;decide)
  |succ f=>
  obtain⟨k,o,nm,args⟩:=t;obtain⟨av,rfl,ho,hnm,hav⟩:∃av,cs= [.int .i64 k,.string o,.string nm,av]∧okS o∧okS nm∧SliceOf iD 4 64 w (old w.heap.size) av args:=by
   obtain⟨d,htr⟩:=htr;cases d with
   |zero=>exact htr.elim
   |succ d=>
    obtain⟨av,rfl,_,h1,h2,h3⟩:=htr;exact⟨av,rfl,h1,h2,h3.aea fun _ _ h=>⟨d,h⟩⟩
  clear htr;obtain⟨A,cap,rfl,_,_,hlen,_⟩:=hav.form;rcases I4 ht with rfl|rfl|⟨rfl,a,rfl,hta⟩|⟨rfl,hno⟩
  ·exact Oj m l n v us o nm args A cap U1 T1 T2 L1 S1 u1 e1 e2 l1 s1 w
  ·exact MW m l n v us o nm args A cap U1 T1 T2 L1 S1 u1 e1 e2 l1 s1 w
  ·exact MS m l hl0 n f ih v us o nm a A cap U1 T1 T2 L1 S1 u1 e1 e2 l1 s1 w hta hf hn hu hm hl hus hav
  ·by_cases ho0:o.size=0
   ·obtain rfl:o=⟨#[]⟩:=aao ho0;exact MV m l hm0 n f ih v us nm args A cap U1 T1 T2 L1 S1 u1 e1 e2 l1 s1 w (DR hno) hnm hn hu hm hl hus
   ·exact MR m l n v us o nm args A cap U1 T1 T2 L1 S1 u1 e1 e2 l1 s1 w ho0 hm hl
theorem FU(m:Module)(l:List Import)(hm0:dD m=0)(hl0:bG l=0)(f:Nat)(v:ByteArray)(t:Ty)(ds cs:List Value)(lv:Value)(w:World)(ht:dn f t=0)(hf:f≤10)
  (hm:aN w (old w.heap.size) ds m) (hl:SliceOf aU 4 72 w (old w.heap.size) lv l) (htr:iD w (old w.heap.size) cs t):
  Calls prog 102 #[.agg ds.toArray,lv,.string v,.agg cs.toArray] w fun e w'=>e=.returned (.tuple #[.string (dA m l v t).1,.int .i64 (dA m l v t).2])∧Below w.heap.size w w':=by
 obtain⟨U1,u1,T1,e1,T2,e2,rfl,_⟩:=aN.form hm;obtain⟨L1,l1,rfl,_⟩:=hl.form;obtain⟨A2,n2,rfl⟩:=iD.form htr;have hfree:lM m []≤24:=by
  have h1:=gJ hm0;have h2:lM m []≤m.types.length:=List.countP_le_length;omega
 have hca:=fun U (hU:Below w.heap.size w U)=>
  MX m l hm0 hl0 300 f v [] t U1 T1 T2 L1 none u1 e1 e2 l1 0 _ U ht hf (by omega) (by simp;omega) (dI aN.stays hm hU) (bK aU.stays hl hU) SliceOf.nil_ (dI iD.stays htr hU)
 unfold dA;generalize bW m l 300 v [] t=r at hca⊢;obtain⟨S,C⟩:=r;dsimp only[List.length_nil]at hca⊢;have Zp:=ah hca;clear hca;clear hm hl htr ht hf hm0 hl0 hfree;go_enter func102,ntmps102;go_upto_region 1 with fail
 have nU:=((Box.made w 27 #[.slice U1 m.uses.length u1,.slice T1 m.types.length e1,.slice T2 m.funcs.length e2]).alloc (.cells #[.int .i64 t.kind,.string t.bT,.string t.name,.slice A2 t.args.length n2] 75));have jL:=(Box.made (w.alloc (.cells #[.slice U1 m.uses.length u1,.slice T1 m.types.length e1,.slice T2 m.funcs.length e2] 27)) 75 #[.int .i64 t.kind,.string t.bT,.string t.name,.slice A2 t.args.length n2]);rw[show(w.alloc (.cells #[.slice U1 m.uses.length u1,.slice T1 m.types.length e1,.slice T2 m.funcs.length e2] 27)).heap.size=w.heap.size+1 by simp only[World.size_alloc]]at jL;have hbm:Below w.heap.size w ((w.alloc (.cells #[.slice U1 m.uses.length u1,.slice T1 m.types.length e1,.slice T2 m.funcs.length e2] 27)).alloc (.cells #[.int .i64 t.kind,.string t.bT,.string t.name,.slice A2 t.args.length n2] 75)):=by go_grown
 have hzm:((w.alloc (.cells #[.slice U1 m.uses.length u1,.slice T1 m.types.length e1,.slice T2 m.funcs.length e2] 27)).alloc (.cells #[.int .i64 t.kind,.string t.bT,.string t.name,.slice A2 t.args.length n2] 75)).heap.size=w.heap.size+1+1:=by simp only[World.size_alloc]
 generalize(w.alloc (.cells #[.slice U1 m.uses.length u1,.slice T1 m.types.length e1,.slice T2 m.funcs.length e2] 27)).alloc (.cells #[.int .i64 t.kind,.string t.bT,.string t.name,.slice A2 t.args.length n2] 75)=W1 at nU jL hbm hzm⊢;have m0:=nU.at_ 0 _ rfl;have m1:=nU.at_ 1 _ rfl;have m2:=nU.at_ 2 _ rfl;have t0:=jL.at_ 0 _ rfl;have t1:=jL.at_ 1 _ rfl;have t2:=jL.at_ 2 _ rfl;have t3:=jL.at_ 3 _ rfl;have HB:=ah hbm;clear hbm;clear hzm nU jL;go_wp2_with fail;refine(Zp.out _ HB.out).mono ?_;rintro e W2 ⟨rfl,hb2⟩;have hbw:Below w.heap.size w W2:=HB.out.trans (hb2.mono HB.out.size);have cO:=ah hbw;clear hbw;clear hb2;go_wp2_with fail
 go_ret2
 exact⟨rfl,cO.out⟩
def rO(a b:og):Bool:=iT a.qK b.qK&&(a.code==b.code)
theorem FB(a b:og)(w:World):
  (binOp .neq 53 (.agg #[.string a.qK,.int .i64 a.code]) (.agg #[.string b.qK,.int .i64 b.code])).run prog w=.ok (.bool (!(rO a b))) w:=by
 have u3:=underlying9;have a3:=isAgg9;have z3:=sizeOf9;have u4:=underlying3;have a4:=isAgg3;have z4:=sizeOf3;have hS:prog.underlying 53=some (.struct (prog.fieldsOf 53)):=by kernel_rfl
 have hp:prog.stoodInHeld 53=false:=by kernel_rfl
 rw[run_neq_struct,show(10000:Nat)=9999+1 from rfl,run_equalIn_agg w 9999 53 _ _ hS hp];simp only[Program.fieldsOf,underlying53];go_simp
 by_cases h1:a.qK.toList=b.qK.toList<;>by_cases h2:a.code=b.code<;>simp[rO,iT,h1,h2]
theorem Y5(v u:Value)(l m:List og)(F G:aV)(w:World)(hF:∀k,F k→k<w.heap.size)(hG:∀k,G k→k<w.heap.size)(hv:SliceOf bn 2 24 w F v l)(hu:SliceOf bn 2 24 w G u m):
  Calls prog 19 #[v,u] w fun e w'=>e=.returned (.bool (listEq rO l m))∧Below w.heap.size w w':=by
 obtain⟨A,cap,rfl,hlc,hcm,hl2,hl3⟩:=hv.form;obtain⟨A',cap',rfl,akU,hcm',oW,pG⟩:=hu.form
 by_cases hlen:l.length=m.length
 ·have hz:((l.length:Int)!=(m.length:Int))=false:=by simp[hlen]
  have HL:=ah hlen;have hle:m.length≤l.length:=by omega
  clear hlen;go_enter func19,ntmps19;go_wp2_with fail;go_loopg [5] l.length (fun gg s5 wr=>∃kk:Nat,kk≤l.length∧l.length-kk≤gg∧s5=.int .i64 kk∧Aside (Below w.heap.size w wr)∧Aside (∀j,j<kk→∀x y,l[j]? =some x→m[j]? =some y→rO x y=true))
  case atStart=>exact⟨0,Nat.zero_le _,by omega,rfl,Below.refl _ w,aside (fun j hj=>absurd hj (Nat.not_lt_zero _))⟩
  case round=>
   obtain⟨kk,hkk,hg,rfl,BW,A1⟩:=hrel
   by_cases hlt:kk<l.length
   ·have hltz:(kk:Int)<(l.length:Int):=by omega
    have hlt':kk<m.length:=by have:=HL.out;omega
    have ZR:(kk:Int)<(m.length:Int):=by omega
    obtain⟨b,off,cs,rfl,hb,hcs,⟨rfl,_,_⟩,hcell⟩:=(hv.up bn.stays hF BW.out).at_ hlt;obtain⟨b',off',cs',rfl,hb',hcs',⟨rfl,_,_⟩,hcell'⟩:=(hu.up bn.stays hG BW.out).at_ hlt';have hc0:=hcell 0 _ rfl;have hd0:=hcell' 0 _ rfl;have hc1:=hcell 1 _ rfl;have hd1:=hcell' 1 _ rfl;simp only[Nat.add_zero]at hc0 hd0;clear hcell hcell' hv hu;have hx:=aK hlt;have hy:=aK hlt';generalize l[kk]=x at*;generalize m[kk]=y at*;have HX:=Lib.hid hx;have HY:=Lib.hid hy;clear hx hy;cases hq:rO x y with
    |true=>
     have HQ:=ah hq;have hE:=FB x y;rw[hq]at hE;clear hq;go_wp2_with fail;go_quiet(fail);go_wp2_with fail;go_roundg (l.length-(kk+1))
     case measure=>omega
     case rel=>exact⟨kk+1,by omega,by omega,by go_num,below_drewN BW.out _,aside (qx HX.out HY.out HQ.out A1.out)⟩
    |false=>
     have HQ:=ah hq;have hE:=FB x y;rw[hq]at hE;clear hq;go_wp2_with fail;go_quiet(fail);go_wp2_with fail;go_ret;exact⟨dw (jw HX.out HY.out HQ.out).symm,below_drewN BW.out _⟩
   ·have hltz:¬(kk:Int)<(l.length:Int):=by omega
    obtain rfl:kk=l.length:=by omega
    go_wp2_with fail;go_ret;exact⟨dw (tV HL.out A1.out).symm,BW.out⟩
 ·have hz:((l.length:Int)!=(m.length:Int))=true:=by simp;omega
  have HL:=ah hlen;clear hlen;go_enter func19,ntmps19;go_wp2_with fail;go_ret;exact⟨dw (oG HL.out).symm,Below.refl _ _⟩
open Go.ChangeShapes Go.WideShapes Go.ChangeAt
def bytesIn(l:List Nat):Obj→Obj
 | .cells _ t frozen=>.cells (l.map fun n:Nat=>Value.int .u8 (n:Int)).toArray t frozen
 |o=>o
def aiA:Obj→Obj
 | .cells _ t frozen=>.cells (Lib.pow10Tab.map fun n=>Value.int .u64 n).toArray t frozen
 |o=>o
def ahD:List Nat:= [0,1,28,2,29,14,24,3,30,22,20,15,25,17,4,8,31,27,13,23,21,19,16,7,26,12,18,6,11,5,10,9]
def ahE:List Nat:= [0,1,56,2,57,49,28,3,61,58,42,50,38,29,17,4,62,47,59,36,45,43,51,22,53,39,33,30,24,18,12,5,63,55,48,27,60,41,37,16,46,35,44,21,52,32,23,11,54,26,40,15,34,20,31,10,25,14,19,9,13,8,7,6]
def YW:Array Value:=([128,191,160,191,128,159,144,191,128,143,0,0,0,0,0,0,0,0,0,0,0,0,0,0,0,0,0,0,0,0,0,0].map fun n:Nat=>Value.int .u8 n).toArray
def firstCells:Array Value:=(Go.Pinned.utf8FirstZ.map fun n:Nat=>Value.int .u8 n).toArray
def ad5(cs:Array Value):Obj→Obj
 | .cells _ t frozen=>.cells cs t frozen
 |o=>o
def agk(b:Nat):Obj→Obj:=ad5 #[.iface 313 (.pointer (some ⟨b,0,none⟩))]
def gX:Array Obj:= #[.cells #[.string ⟨#[105,110,118,97,108,105,100,32,115,121,110,116,97,120]⟩] 315,.cells #[.string ⟨#[118,97,108,117,101,32,111,117,116,32,111,102,32,114,97,110,103,101]⟩] 315]
def jo(w:World):World:= { w with heap:=((((((w.heap.modify 5 (bytesIn ahD)).modify 6 (bytesIn ahE)).modify 4 aiA).modify 7 (agk (w.heap.size-2))).modify 8 (agk (w.heap.size-1))).modify 2 (ad5 firstCells)).modify 3 (ad5 YW) }
theorem Qp:prog.globalNamed "strconv.ErrSyntax" =some 7:=by kernel_rfl
theorem abT:(prog.globals[7]?).map (·.type)=some 129:=by kernel_rfl
theorem Qd:prog.globalNamed "strconv.ErrRange" =some 8:=by kernel_rfl
theorem abJ:(prog.globals[8]?).map (·.type)=some 129:=by kernel_rfl
theorem Pj:prog.cellsOf 315=1:=by kernel_rfl
theorem Qn:prog.cellsOf 9=1:=by kernel_rfl
theorem Ur: "*" ++ "errors.errorString" = "*errors.errorString" :=by decide
theorem ZG(u:TypeId)(h:prog.typeName? 3 u=some "*errors.errorString"):u=313:=
 typeName_ptr_named (nm:= "errors.errorString") (by rw[Ur];kernel_rfl) (by kernel_rfl) (by decide) u (by rw[Ur];exact h)
theorem Vb{W:World}(h:W.ShapedOpen Tryz.checked.prog):∃m,W.cell? ⟨1,0,none⟩=some (.int .i64 m):=
 Go.Proofs.cell_of_shapedOpen_int (zero:= #[.int .i64 0]) (t:=3) h (of_decide_eq_true (by kernel_rfl)) (by kernel_rfl) rfl (by kernel_rfl) (by kernel_rfl) underlying3
theorem JE{W:World}{p:DataW Unit}{t1 t2:List UInt8}{r1 r2 r3:List (String×DataW Unit)}(hp:laidMet prog (("internal/strconv.uint64pow10",p)::r1) W)(hpp:p=.agg (Lib.pow10Tab.map fun n=>.lit (.int .u64 n)))
  (hr:laidMet prog (("strconv.ErrRange",.iface "*errors.errorString" (.ptr (.agg [.lit (.string t1)])))::r2) W) (hs:laidMet prog (("strconv.ErrSyntax",.iface "*errors.errorString" (.ptr (.agg [.lit (.string t2)])))::r3) W)
  (hsh:W.ShapedOpen Tryz.checked.prog):∃m,Tabs W m:=by
 obtain⟨m,hm⟩:=Vb hsh;obtain⟨a0,s0,hv0,-,-,-⟩:=laid_sentinel hs Qp abT underlying129 ZG underlying313 underlying315 rfl rfl underlying9 Pj Qn;obtain⟨a1,s1,hv1,-,-,-⟩:=laid_sentinel hr Qd abJ underlying129 ZG underlying313 underlying315 rfl rfl underlying9 Pj Qn;subst hpp;exact⟨m,Lib.tabIs_of_head (t:=288) (e:=199) (n:=20) Hy (by kernel_rfl) (by kernel_rfl) (by kernel_rfl) (by kernel_rfl) (by kernel_rfl) hp,
  ⟨_,_,by have h0:=World.var?_cell Qp hv0 0;simpa using h0⟩,⟨_,_,by have h0:=World.var?_cell Qd hv1 0;simpa using h0⟩,hm⟩
end Go.Proofs.YtjaladhdnbhliaaGreatDoor
