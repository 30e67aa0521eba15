/- Parts. -/
import Derived.Test.YtjaladhdnbhliaaGreatDoorQUsesG
set_option maxHeartbeats 8000000
set_option maxRecDepth 100000
namespace Go.Proofs.YtjaladhdnbhliaaGreatDoor
open Go.Proofs.Tryz
open Go.RowKit Go.Shelf
theorem aZ.strs{e:TypeId}{base:Nat}{w:World}{F:aV}{v:Value}{l:List ByteArray}(h:aZ aY 1 e base w F v l):aZ aY 1 e base w none_ v l:=by
 obtain⟨xs,h1,h2,_⟩:=h;exact⟨xs,h1,⟨h2.1,fun i x hi=>h2.2 i x hi⟩,fun _ h=>h.elim⟩
def J3(m:Module)(l:List Import)(n:Nat):Prop:=∀(f:Nat) (v:ByteArray) (us:List ByteArray) (t:Ty) (U1 T1 T2 L1 S1:Option Addr) (u1 e1 e2 l1 s1:Nat) (cs:List Value) (w:World),
 dn f t=0→f≤10→f+11*lM m us≤n→us.length+lM m us≤24→
 aN w (old w.heap.size) [.slice U1 m.uses.length u1,.slice T1 m.types.length e1,.slice T2 m.funcs.length e2] m→SliceOf aU 4 72 w (old w.heap.size) (.slice L1 l.length l1) l→SliceOf aY 1 16 w (old w.heap.size) (.slice S1 us.length s1) us→
 iD w (old w.heap.size) cs t→
 Calls prog 167 #[.agg #[.slice U1 m.uses.length u1,.slice T1 m.types.length e1,.slice T2 m.funcs.length e2],.slice L1 l.length l1,.string v,.agg cs.toArray,.slice S1 us.length s1] w fun e w'=>e=.returned (.tuple #[.string (bW m l n v us t).1,.int .i64 (bW m l n v us t).2])∧Below w.heap.size w w'
theorem MS(m:Module)(l:List Import)(hl0:bG l=0)(n f:Nat)(ih:J3 m l n)(v:ByteArray)(us:List ByteArray)(o nm:ByteArray)(a:Ty)(A:Option Addr)(cap:Nat)(U1 T1 T2 L1 S1:Option Addr)(u1 e1 e2 l1 s1:Nat)(w:World)
  (hta:dn f a=0) (hf:f+1≤10) (hn:f+1+11*lM m us≤n+1) (hu:us.length+lM m us≤24)
  (hm:aN w (old w.heap.size) [.slice U1 m.uses.length u1,.slice T1 m.types.length e1,.slice T2 m.funcs.length e2] m) (hl:SliceOf aU 4 72 w (old w.heap.size) (.slice L1 l.length l1) l) (hus:SliceOf aY 1 16 w (old w.heap.size) (.slice S1 us.length s1) us)
  (hav:SliceOf iD 4 64 w (old w.heap.size) (.slice A 1 cap) [a]):
  Calls prog 167 #[.agg #[.slice U1 m.uses.length u1,.slice T1 m.types.length e1,.slice T2 m.funcs.length e2],.slice L1 l.length l1,.string v,.agg #[.int .i64 3,.string o,.string nm,.slice A 1 cap],.slice S1 us.length s1] w fun e w'=>e=.returned (.tuple #[.string (bW m l (n+1) v us (.mk 3 o nm [a])).1,.int .i64 (bW m l (n+1) v us (.mk 3 o nm [a])).2])∧Below w.heap.size w w':=by
 rw[MN];have hst:=nH hl0;obtain⟨b1,off,cs,rfl,jc,hcs,hra,hcell⟩:=hav.at_ (k:=0) (by simp);obtain⟨A2,n2,rfl⟩:=iD.form hra;have hc0:=hcell 0 _ rfl;have hc1:=hcell 1 _ rfl;have hc2:=hcell 2 _ rfl;have hc3:=hcell 3 _ rfl;simp only[Nat.add_zero]at hc0;simp only[Nat.zero_mul,Nat.add_zero]at hc0 hc1 hc2 hc3;have hlb:b1<w.heap.size:=jc;have hca:=fun U (hU:Below w.heap.size w U)=>ih f v us a U1 T1 T2 L1 S1 u1 e1 e2 l1 s1 _ U hta (by omega) (by omega) hu (dI aN.stays hm hU) (bK aU.stays hl hU) (bK aY.stays hus hU) (dI iD.stays hra hU)
 have hsm:=oU (m:=m) hst n v us a;simp only[List.getElem_cons_zero]at*;generalize bW m l n v us a=r at*;obtain⟨S,C⟩:=r;dsimp only at hca hsm⊢;have hlo:=fun W=>E5 S W (by omega)
 generalize kK S=X at hlo⊢;generalize jH S=Y at hlo⊢;obtain⟨E,hE⟩:∃E,(if C≠0 then((⟨#[]⟩:ByteArray),C)else if X≠0 then(⟨#[]⟩,5)else(Y,0))=E:=⟨_,rfl⟩;rw[hE];obtain⟨Zp,HLO,HE⟩:=ak hca hlo hE;clear hca hlo hE;clear hn ih hm hl hus hav hst hcell hra hsm hta hf hu hl0 jc hcs;go_enter func167,ntmps167;go_upto_region 1 with fail
 have nU:=((Box.made w 27 #[.slice U1 m.uses.length u1,.slice T1 m.types.length e1,.slice T2 m.funcs.length e2]).alloc (.cells #[.int .i64 3,.string o,.string nm,.slice (some ⟨b1,off,none⟩) 1 cap] 75));have jL:=(Box.made (w.alloc (.cells #[.slice U1 m.uses.length u1,.slice T1 m.types.length e1,.slice T2 m.funcs.length e2] 27)) 75 #[.int .i64 3,.string o,.string nm,.slice (some ⟨b1,off,none⟩) 1 cap]);rw[show(w.alloc (.cells #[.slice U1 m.uses.length u1,.slice T1 m.types.length e1,.slice T2 m.funcs.length e2] 27)).heap.size=w.heap.size+1 by simp only[World.size_alloc]]at jL;have hbm:Below w.heap.size w ((w.alloc (.cells #[.slice U1 m.uses.length u1,.slice T1 m.types.length e1,.slice T2 m.funcs.length e2] 27)).alloc (.cells #[.int .i64 3,.string o,.string nm,.slice (some ⟨b1,off,none⟩) 1 cap] 75)):=by go_grown
 have hzm:((w.alloc (.cells #[.slice U1 m.uses.length u1,.slice T1 m.types.length e1,.slice T2 m.funcs.length e2] 27)).alloc (.cells #[.int .i64 3,.string o,.string nm,.slice (some ⟨b1,off,none⟩) 1 cap] 75)).heap.size=w.heap.size+1+1:=by simp only[World.size_alloc]
 generalize(w.alloc (.cells #[.slice U1 m.uses.length u1,.slice T1 m.types.length e1,.slice T2 m.funcs.length e2] 27)).alloc (.cells #[.int .i64 3,.string o,.string nm,.slice (some ⟨b1,off,none⟩) 1 cap] 75)=W1 at nU jL hbm hzm⊢;have m0:=nU.at_ 0 _ rfl;have m1:=nU.at_ 1 _ rfl;have m2:=nU.at_ 2 _ rfl;have t0:=jL.at_ 0 _ rfl;have t1:=jL.at_ 1 _ rfl;have t2:=jL.at_ 2 _ rfl;have t3:=jL.at_ 3 _ rfl;have k0:=(hbm.cell (p:=⟨b1,off,none⟩) hlb).trans hc0;have k1:=(hbm.cell (p:=⟨b1,off+1,none⟩) hlb).trans hc1;have k2:=(hbm.cell (p:=⟨b1,off+2,none⟩) hlb).trans hc2;have k3:=(hbm.cell (p:=⟨b1,off+3,none⟩) hlb).trans hc3;have hq1:=nU.lt;have hq2:=jL.lt;have hq3:b1<W1.heap.size:=Nat.lt_of_lt_of_le hlb hbm.size;have HS:=Lib.hid (show ∀w',Below W1.heap.size W1 w'→(w'.cell? ⟨w.heap.size,0,none⟩=some (.slice U1 m.uses.length u1)∧w'.cell? ⟨w.heap.size,1,none⟩=some (.slice T1 m.types.length e1)∧w'.cell? ⟨w.heap.size,2,none⟩=some (.slice T2 m.funcs.length e2)∧w'.cell? ⟨w.heap.size+1,3,none⟩=some (.slice (some ⟨b1,off,none⟩) 1 cap)∧w'.cell? ⟨b1,off,none⟩=some (.int .i64 a.kind)∧w'.cell? ⟨b1,off+1,none⟩=some (.string a.bT)∧w'.cell? ⟨b1,off+2,none⟩=some (.string a.name)∧w'.cell? ⟨b1,off+3,none⟩=some (.slice A2 a.args.length n2))from fun w' h=>⟨(h.cell (p:=⟨w.heap.size,0,none⟩) hq1).trans m0,(h.cell (p:=⟨w.heap.size,1,none⟩) hq1).trans m1,(h.cell (p:=⟨w.heap.size,2,none⟩) hq1).trans m2,(h.cell (p:=⟨w.heap.size+1,3,none⟩) hq2).trans t3,(h.cell (p:=⟨b1,off,none⟩) hq3).trans k0,(h.cell (p:=⟨b1,off+1,none⟩) hq3).trans k1,(h.cell (p:=⟨b1,off+2,none⟩) hq3).trans k2,(h.cell (p:=⟨b1,off+3,none⟩) hq3).trans k3⟩)
 have hrw:Below W1.heap.size W1 W1.drew:=by go_grown
 obtain⟨HB,bP⟩:=aj hbm hrw;clear hbm hrw;clear hzm nU jL hc0 hc1 hc2 hc3 hq1 hq2 hq3;go_upto_region 6 with fail
 go_cut [12,13] (fun s12 s13 wc=>s12=.string S∧s13=.int .i64 C∧Aside (Below W1.heap.size W1 wc))
 case first=>
  go_region_held3(fun w'=>w'.cell? ⟨w.heap.size,0,none⟩=some (.slice U1 m.uses.length u1)∧w'.cell? ⟨w.heap.size,1,none⟩=some (.slice T1 m.types.length e1)∧w'.cell? ⟨w.heap.size,2,none⟩=some (.slice T2 m.funcs.length e2)∧w'.cell? ⟨w.heap.size+1,3,none⟩=some (.slice (some ⟨b1,off,none⟩) 1 cap)∧w'.cell? ⟨b1,off,none⟩=some (.int .i64 a.kind)∧w'.cell? ⟨b1,off+1,none⟩=some (.string a.bT)∧w'.cell? ⟨b1,off+2,none⟩=some (.string a.name)∧w'.cell? ⟨b1,off+3,none⟩=some (.slice A2 a.args.length n2))
   (exact HS.out _ (by first|exact bP.out|exact bP.out.alloc bP.out.size _|(go_grown;done)|exact(bP.out.alloc bP.out.size _).alloc (bP.out.alloc bP.out.size _).size _|exact bP.out.setCell (aJ _) _|exact(bP.out.setCell (aJ _) _).setCell (aJ _) _))
   ((go_at_call 167;(with_reducible refine(Zp.out _ (HB.out.trans (bP.out.mono HB.out.size))).mono ?_);rintro e w7 ⟨rfl,hb7⟩;have hb8:=aS bP.out hb7;have bP:=Lib.hid hb8;clear hb7 hb8))
  all_goals
   go_wp2_with fail;go_meet;exact⟨rfl,rfl,aside bP.out⟩
 case rest=>
 obtain⟨rfl,rfl,hb2⟩:=hcut;obtain⟨W2,rfl⟩:∃W,W=wc:=⟨_,rfl⟩;have hbw:Below w.heap.size w W2:=HB.out.trans (hb2.out.mono HB.out.size);have cO:=ah hbw;clear hbw;clear hb2 m0 m1 m2 t0 t1 t2 t3 k0 k1 k2 k3
 by_cases hC:C=0
 ·subst hC;go_wp2_with fail;refine(HLO.out _).mono ?_;rintro e W3 ⟨rfl,rfl⟩
  by_cases hX:X=0
  ·subst hX;obtain rfl:E=(Y,0):=by rw[←HE.out,if_neg (by simp),if_neg (by simp)]
   go_wp2_with fail
   go_ret2
   exact⟨rfl,cO.out⟩
  ·obtain rfl:E=(⟨#[]⟩,5):=by rw[←HE.out,if_neg (by simp),if_pos hX]
   have hXz:(X==0)=false:=by simp[hX]
   go_wp2_with fail
   go_ret2
   exact⟨rfl,cO.out⟩
 ·obtain rfl:E=(⟨#[]⟩,C):=by rw[←HE.out,if_pos hC]
  have hCz:(C==0)=false:=by simp[hC]
  go_wp2_with fail
  go_ret2
  exact⟨rfl,cO.out⟩
theorem MR(m:Module)(l:List Import)(n:Nat)(v:ByteArray)(us:List ByteArray)(o nm:ByteArray)(args:List Ty)(A:Option Addr)(cap:Nat)(U1 T1 T2 L1 S1:Option Addr)(u1 e1 e2 l1 s1:Nat)(w:World)(ho0:o.size≠0)
  (hm:aN w (old w.heap.size) [.slice U1 m.uses.length u1,.slice T1 m.types.length e1,.slice T2 m.funcs.length e2] m) (hl:SliceOf aU 4 72 w (old w.heap.size) (.slice L1 l.length l1) l):
  Calls prog 167 #[.agg #[.slice U1 m.uses.length u1,.slice T1 m.types.length e1,.slice T2 m.funcs.length e2],.slice L1 l.length l1,.string v,.agg #[.int .i64 4,.string o,.string nm,.slice A args.length cap],.slice S1 us.length s1] w fun e w'=>e=.returned (.tuple #[.string (bW m l (n+1) v us (.mk 4 o nm args)).1,.int .i64 (bW m l (n+1) v us (.mk 4 o nm args)).2])∧Below w.heap.size w w':=by
 rw[VI ho0];have hoz:(o.toList== [])=false:=by
  cases h:o.toList with
  |nil=>
   have h2:=bC o;rw[h]at h2;exact absurd (of_decide_eq_true h2.symm) ho0
  |cons=>rfl
 have aq3:o.toList.isEmpty=false:=by rw[bC];exact decide_eq_false ho0
 have hfr:=fun U (hU:Below w.heap.size w U)=>Dc m l o [.slice U1 m.uses.length u1,.slice T1 m.types.length e1,.slice T2 m.funcs.length e2] (.slice L1 l.length l1) (old U.heap.size) (old U.heap.size) U eF eF (dI aN.stays hm hU) (bK aU.stays hl hU)
 have hty:=fun U ds F (hF:∀k,F k→k<U.heap.size) (h:bD U F ds (bZ m l o))=>Zm (bZ m l o) nm ds F U hF h
 generalize iO (bZ m l o).types nm=r at hty⊢;obtain⟨S,C⟩:=r;obtain⟨zb,hzb⟩:∃z,ku m l o=z:=⟨_,rfl⟩;rw[hzb]at hfr⊢;generalize bZ m l o=Fc at hfr hty⊢;dsimp only at hty⊢;obtain⟨E,hE⟩:∃E,(if zb=true∧C=0 then(S,(0:Int))else(⟨#[]⟩,5))=E:=⟨_,rfl⟩;rw[hE];obtain⟨JJ,XV,HE⟩:=ak hfr hty hE;clear hfr hty hE;clear hzb hm hl;go_enter func167,ntmps167;go_upto_region 1 with fail
 have nU:=((Box.made w 27 #[.slice U1 m.uses.length u1,.slice T1 m.types.length e1,.slice T2 m.funcs.length e2]).alloc (.cells #[.int .i64 4,.string o,.string nm,.slice A args.length cap] 75));have jL:=(Box.made (w.alloc (.cells #[.slice U1 m.uses.length u1,.slice T1 m.types.length e1,.slice T2 m.funcs.length e2] 27)) 75 #[.int .i64 4,.string o,.string nm,.slice A args.length cap]);rw[show(w.alloc (.cells #[.slice U1 m.uses.length u1,.slice T1 m.types.length e1,.slice T2 m.funcs.length e2] 27)).heap.size=w.heap.size+1 by simp only[World.size_alloc]]at jL;have hbm:Below w.heap.size w ((w.alloc (.cells #[.slice U1 m.uses.length u1,.slice T1 m.types.length e1,.slice T2 m.funcs.length e2] 27)).alloc (.cells #[.int .i64 4,.string o,.string nm,.slice A args.length cap] 75)):=by go_grown
 have hzm:((w.alloc (.cells #[.slice U1 m.uses.length u1,.slice T1 m.types.length e1,.slice T2 m.funcs.length e2] 27)).alloc (.cells #[.int .i64 4,.string o,.string nm,.slice A args.length cap] 75)).heap.size=w.heap.size+1+1:=by simp only[World.size_alloc]
 generalize(w.alloc (.cells #[.slice U1 m.uses.length u1,.slice T1 m.types.length e1,.slice T2 m.funcs.length e2] 27)).alloc (.cells #[.int .i64 4,.string o,.string nm,.slice A args.length cap] 75)=W1 at nU jL hbm hzm⊢;have m0:=nU.at_ 0 _ rfl;have m1:=nU.at_ 1 _ rfl;have m2:=nU.at_ 2 _ rfl;have t0:=jL.at_ 0 _ rfl;have t1:=jL.at_ 1 _ rfl;have t2:=jL.at_ 2 _ rfl;have t3:=jL.at_ 3 _ rfl;have hlt:=jL.lt;obtain⟨HB,HBt⟩:=aj hbm jL;clear hbm jL;clear hzm nU;go_wp2_with fail;refine(JJ.out _ HB.out).mono ?_;rintro e W2 ⟨ds,rfl,hb2,hf2⟩;obtain⟨T5,e5,T6,e6,rfl⟩:=bD.form hf2;have hbw:=HB.out.trans (hb2.mono HB.out.size);have NV:=HBt.out.later hb2 hlt;have hcl:=XV.out (W2.alloc (.cells #[.slice T5 Fc.types.length e5,.slice T6 Fc.funcs.length e6] 42)) [.slice T5 Fc.types.length e5,.slice T6 Fc.funcs.length e6] _ eF (dI bD.stays (DU bD.stays hf2 (fun k hk=>Nat.lt_of_lt_of_le hk hb2.size)) ((Below.refl _ _).alloc (aJ _) _));clear m0 m1 m2 t0 t1 t2 t3;have t2:=NV.at_ 2 _ rfl;have hlt2:=NV.lt;obtain⟨Gh,cO⟩:=aj hcl hbw;clear hcl hbw;clear NV hb2 hf2 hlt;go_wp2_with fail;refine Gh.out.mono ?_;rintro e W3 ⟨rfl,hb3⟩;have hbw3:=(cO.out.alloc cO.out.size _).trans (hb3.mono (cO.out.alloc cO.out.size _).size);have fV:=ah hbw3;clear hbw3;clear hb3;cases zb with
 |false=>
  obtain rfl:E=(⟨#[]⟩,5):=by rw[←HE.out,if_neg (by simp)]
  go_wp2_with fail
  go_ret2
  exact⟨rfl,fV.out⟩
 |true=>
  by_cases hC:C=0
  ·subst hC;obtain rfl:E=(S,0):=by rw[←HE.out,if_pos (by simp)]
   go_wp2_with fail
   go_ret2
   exact⟨rfl,fV.out⟩
  ·obtain rfl:E=(⟨#[]⟩,5):=by rw[←HE.out,if_neg (by simp[hC])]
   have hCz:(C==0)=false:=by simp[hC]
   go_wp2_with fail
   go_ret2
   exact⟨rfl,fV.out⟩
theorem Oj(m:Module)(l:List Import)(n:Nat)(v:ByteArray)(us:List ByteArray)(o nm:ByteArray)(args:List Ty)(A:Option Addr)(cap:Nat)(U1 T1 T2 L1 S1:Option Addr)(u1 e1 e2 l1 s1:Nat)(w:World):
  Calls prog 167 #[.agg #[.slice U1 m.uses.length u1,.slice T1 m.types.length e1,.slice T2 m.funcs.length e2],.slice L1 l.length l1,.string v,.agg #[.int .i64 1,.string o,.string nm,.slice A args.length cap],.slice S1 us.length s1] w fun e w'=>e=.returned (.tuple #[.string (bW m l (n+1) v us (.mk 1 o nm args)).1,.int .i64 (bW m l (n+1) v us (.mk 1 o nm args)).2])∧Below w.heap.size w w':=by
 rw[Ql];go_enter func167,ntmps167;go_wp2_with fail
 go_ret2
 exact⟨rfl,by go_grown⟩
theorem MW(m:Module)(l:List Import)(n:Nat)(v:ByteArray)(us:List ByteArray)(o nm:ByteArray)(args:List Ty)(A:Option Addr)(cap:Nat)(U1 T1 T2 L1 S1:Option Addr)(u1 e1 e2 l1 s1:Nat)(w:World):
  Calls prog 167 #[.agg #[.slice U1 m.uses.length u1,.slice T1 m.types.length e1,.slice T2 m.funcs.length e2],.slice L1 l.length l1,.string v,.agg #[.int .i64 2,.string o,.string nm,.slice A args.length cap],.slice S1 us.length s1] w fun e w'=>e=.returned (.tuple #[.string (bW m l (n+1) v us (.mk 2 o nm args)).1,.int .i64 (bW m l (n+1) v us (.mk 2 o nm args)).2])∧Below w.heap.size w w':=by
 rw[MQ];go_enter func167,ntmps167;go_wp2_with fail
 go_ret2
 exact⟨rfl,by go_grown⟩
theorem Jr{P:Program}{e:TypeId}{G:aV}{w:World}{m:List ByteArray}{ops:Array Oper}{o:Oper}{a:Act}{K:Act→World→Prop}{Q:Exit→Act→World→Prop}{E:Prop}(x:Operand)(t:TypeId)(hgd:o.guard=none)
  (ho:o.op=.call { callee:=.builtin .append,args:= #[.const (.slice none 0 0),x],argTypes:= #[t,t] }) (ht:P.underlying t=some (.slice e)) (hi:(P.info? e).map (fun i=>(i.zero,i.size,i.bytes))=some (some (.string ⟨#[]⟩:Value),1,16))
  {S:Option Addr} {c:Nat} (hx:a.eval x=.slice S m.length c) (hsrc:SliceOf aY 1 16 w G (.slice S m.length c) m) (hG:∀k,G k→k<w.heap.size) (hbytes:m.length≤100000)
  (h:∀A c w',aZ aY 1 e w.heap.size w' none_ (.slice A m.length c) m→Grew w.heap.size w w' none→K (a.put o.dst (.slice A m.length c)) w'):
  if Region.wanted o (yielded ops a.tmps)=true then Oper.wp P o a w K Q else E:=by
 have hl:(⟨[],0⟩:List ByteArray×Nat).1.length+m.length=m.length:=by simp
 refine Nj (F:=none_) (l:=([]:List ByteArray)) (base:=w.heap.size) aY.stays (fun cs x h=>aY.one (w:=w) (F:=G) cs x h) (.string ⟨#[]⟩) (.const (.slice none 0 0)) x t hgd ho ht hi (aZ.nil_ (R:=aY)) rfl rfl (by decide) hx hsrc (fun k hk=>⟨hG k hk,by simp[Value.ownBlock]⟩) (by unfold maxLen;simp;omega) (by simp;omega) (aJ _) ?_;intro A c' w' ho' hg _;have ho2:=ho'.strs;simp only[List.length_nil,Nat.zero_add,List.nil_append]at ho2⊢;exact h A c' w' ho2 hg
theorem MV(m:Module)(l:List Import)(hm0:dD m=0)(n f:Nat)(ih:J3 m l n)(v:ByteArray)(us:List ByteArray)(nm:ByteArray)(args:List Ty)(A:Option Addr)(cap:Nat)(U1 T1 T2 L1 S1:Option Addr)(u1 e1 e2 l1 s1:Nat)(w:World)
  (ak1:nm.size≠0) (hnm:okS nm) (hn:f+1+11*lM m us≤n+1) (hu:us.length+lM m us≤24)
  (hm:aN w (old w.heap.size) [.slice U1 m.uses.length u1,.slice T1 m.types.length e1,.slice T2 m.funcs.length e2] m) (hl:SliceOf aU 4 72 w (old w.heap.size) (.slice L1 l.length l1) l) (hus:SliceOf aY 1 16 w (old w.heap.size) (.slice S1 us.length s1) us):
  Calls prog 167 #[.agg #[.slice U1 m.uses.length u1,.slice T1 m.types.length e1,.slice T2 m.funcs.length e2],.slice L1 l.length l1,.string v,.agg #[.int .i64 4,.string ⟨#[]⟩,.string nm,.slice A args.length cap],.slice S1 us.length s1] w fun e w'=>e=.returned (.tuple #[.string (bW m l (n+1) v us (.mk 4 ⟨#[]⟩ nm args)).1,.int .i64 (bW m l (n+1) v us (.mk 4 ⟨#[]⟩ nm args)).2])∧Below w.heap.size w w':=by
 by_cases hv0:nm=v
 ·subst hv0;rw[Qm rfl rfl];have hq:(nm.toList==nm.toList)=true:=by simp
  have hz:nm.toList.isEmpty=false:=by rw[bC];exact decide_eq_false ak1
  clear hn ih hm hl hus hm0;go_enter func167,ntmps167;go_wp2_with fail
  go_ret2
  exact⟨rfl,by go_grown⟩
 have hq:(nm.toList==v.toList)=false:=by rw[str_eq];exact decide_eq_false hv0
 have hT:SliceOf aQ 5 80 w (old w.heap.size) (.slice T1 m.types.length e1) m.types:=by
  obtain⟨_,_,_,he,_,h2,_⟩:=hm;simp only[List.cons.injEq,and_true]at he;obtain⟨rfl,rfl,rfl⟩:=he;exact h2
 have hk:=xR (bU nm) m.types;have hE0:=fun h=>MP (m:=m) (l:=l) (n:=n) (v:=v) (us:=us) (o:=⟨#[]⟩) (args:=args) rfl hv0 (ZL (p:=bU nm) h)
 have hE1:=fun(k:Nat) (x:Field) h1 h2 h3 h4=>IY (m:=m) (l:=l) (n:=n) (v:=v) (us:=us) (o:=⟨#[]⟩) (args:=args) rfl hv0 (Bf (k:=k) (x:=x) (p:=bU nm) h1 h2 h3) h4
 have hE2:=fun(k:Nat) (x:Field) h1 h2 h3 h4=>MO (m:=m) (l:=l) (n:=n) (v:=v) (us:=us) (o:=⟨#[]⟩) (args:=args) rfl hv0 (Bf (k:=k) (x:=x) (p:=bU nm) h1 h2 h3) h4
 have hfl:=fun(k:Nat) (x:Field) h1 h2 h3 h4=>Gy (m:=m) (us:=us) (Bf (k:=k) (x:=x) (p:=bU nm) h1 h2 h3) h4
 obtain⟨E,hE⟩:∃E,bW m l (n+1) v us (.mk 4 ⟨#[]⟩ nm args)=E:=⟨_,rfl⟩;rw[hE]at hE0 hE1 hE2⊢;have hmt:=PV hm0;have hta:=fun U (hU:Below w.heap.size w U)=>Np m nm [.slice U1 m.uses.length u1,.slice T1 m.types.length e1,.slice T2 m.funcs.length e2] (old U.heap.size) U eF (dI aN.stays hm hU)
 have hht:=fun U (hU:Below w.heap.size w U)=>Ad (.slice S1 us.length s1) us (old U.heap.size) nm U (bK aY.stays hus hU)
 obtain⟨z,hz⟩:∃z,fidx (bU nm) m.types=z:=⟨_,rfl⟩;obtain⟨zu,hzu⟩:∃z,o9 us nm=z:=⟨_,rfl⟩;rw[hz]at hta hk;rw[hzu]at hht hE1 hE2 hfl;obtain⟨zv,hzv⟩:∃z,v.toList.isEmpty=z:=⟨_,rfl⟩;obtain⟨Xr,vk,HE2,HFL,HM,HL,HUS,HIH,HT,HK,HN,HU⟩:=aI hE0 hE1 hE2 hfl hm hl hus ih hT hk hn hu;obtain⟨HMT,HTA,HHT⟩:=ak hmt hta hht;clear hE0 hE1 hE2 hfl hm hl hus ih hT hk hn hu hmt hta hht;clear hE hm0 hz hzu ak1;go_enter func167,ntmps167;go_upto_region 1 with fail
 have nU:=((Box.made w 27 #[.slice U1 m.uses.length u1,.slice T1 m.types.length e1,.slice T2 m.funcs.length e2]).alloc (.cells #[.int .i64 4,.string ⟨#[]⟩,.string nm,.slice A args.length cap] 75));have jL:=(Box.made (w.alloc (.cells #[.slice U1 m.uses.length u1,.slice T1 m.types.length e1,.slice T2 m.funcs.length e2] 27)) 75 #[.int .i64 4,.string ⟨#[]⟩,.string nm,.slice A args.length cap]);rw[show(w.alloc (.cells #[.slice U1 m.uses.length u1,.slice T1 m.types.length e1,.slice T2 m.funcs.length e2] 27)).heap.size=w.heap.size+1 by simp only[World.size_alloc]]at jL;have hbm:Below w.heap.size w ((w.alloc (.cells #[.slice U1 m.uses.length u1,.slice T1 m.types.length e1,.slice T2 m.funcs.length e2] 27)).alloc (.cells #[.int .i64 4,.string ⟨#[]⟩,.string nm,.slice A args.length cap] 75)):=by go_grown
 have hzm:((w.alloc (.cells #[.slice U1 m.uses.length u1,.slice T1 m.types.length e1,.slice T2 m.funcs.length e2] 27)).alloc (.cells #[.int .i64 4,.string ⟨#[]⟩,.string nm,.slice A args.length cap] 75)).heap.size=w.heap.size+1+1:=by simp only[World.size_alloc]
 generalize(w.alloc (.cells #[.slice U1 m.uses.length u1,.slice T1 m.types.length e1,.slice T2 m.funcs.length e2] 27)).alloc (.cells #[.int .i64 4,.string ⟨#[]⟩,.string nm,.slice A args.length cap] 75)=W1 at nU jL hbm hzm⊢;have m0:=nU.at_ 0 _ rfl;have m1:=nU.at_ 1 _ rfl;have m2:=nU.at_ 2 _ rfl;have t0:=jL.at_ 0 _ rfl;have t1:=jL.at_ 1 _ rfl;have t2:=jL.at_ 2 _ rfl;have t3:=jL.at_ 3 _ rfl;have hq1:=nU.lt;have hq2:=jL.lt;obtain⟨HB,HBm,HBt⟩:=ak hbm nU jL;clear hbm nU jL;clear hzm;go_upto_region 19 with fail
 go_cut [85] (fun s85 wc=>s85=.bool false∧wc=W1)
 case first=>
  cases zv with
  |true=>
   go_wp2_with fail;go_meet;exact⟨rfl,rfl⟩
  |false=>
   go_wp2_with fail;go_meet;exact⟨rfl,rfl⟩
 case rest=>
 obtain⟨rfl,rfl⟩:=hcut;have hta:=HTA.out wc HB.out;have HTB:=ah hta;clear hta;clear hzv;go_wp2_with fail;refine HTB.out.mono ?_;rintro e W3 ⟨rfl,hb3⟩;have hbw:=HB.out.trans (hb3.mono HB.out.size);have adp:=HBm.out.later hb3 hq1;have Uy:=HBt.out.later hb3 hq2;clear m0 m1 m2 t0 t1 t2 t3 hq1 hq2 hb3;have hq1:=adp.lt;have hq2:=Uy.lt;have m0:=adp.at_ 0 _ rfl;have m1:=adp.at_ 1 _ rfl;have m2:=adp.at_ 2 _ rfl;have t2:=Uy.at_ 2 _ rfl;clear adp Uy HBm HBt;rcases HK.out with ⟨rfl,hall⟩|⟨k,x,rfl,hx,hfx,hall⟩
 ·have h:=Xr.out hall;subst h;have fV:=ah hbw;clear hbw;clear hall;go_wp2_with fail
  go_ret2
  exact⟨rfl,fV.out⟩
 ·have hkz:decide ((k:Int)<0)=false:=decide_eq_false (by omega);have ah2:¬(k:Int)<0:=by omega
  have hxm:=List.mem_of_getElem? hx;have hkl:k<m.types.length:=(List.getElem?_eq_some_iff.1 hx).1;have an8:(k:Int)<(m.types.length:Int):=by omega
  have h1:=vk.out k x hx hfx hall;have h2:=HE2.out k x hx hfx hall;have h3:=HFL.out k x hx hfx hall;have hxe:m.types[k]=x:=(List.getElem?_eq_some_iff.1 hx).2;have hht:=HHT.out W3 hbw;have Cc:=bK aQ.stays HT.out hbw;obtain⟨bt,off,cs,hT1,jc,hcs,hfr,hcell⟩:=Cc.at_ (k:=k) hkl;rw[hxe]at hfr;obtain⟨y1,y2,y3,y4,rfl,_,hty⟩:=aQ.form hfr;obtain⟨A2,n2,hf⟩:=iD.form hty;simp only[List.cons.injEq,and_true]at hf;obtain⟨rfl,rfl,rfl,rfl⟩:=hf;have hc0:=hcell 0 _ rfl;have hc1:=hcell 1 _ rfl;have hc2:=hcell 2 _ rfl;have hc3:=hcell 3 _ rfl;have hc4:=hcell 4 _ rfl;simp only[Nat.add_zero]at hc0;obtain⟨HH1,HH2,HH3,cO,HXM,HC,XV,HCE⟩:=aC h1 h2 h3 hbw hxm hht hty hc0;clear h1 h2 h3 hbw hxm hht hty hc0;clear hall hfx hx Cc hcell hfr hcs hxe;subst hT1;have hq3:bt<W3.heap.size:=jc;go_wp2_with fail;refine HC.out.mono ?_;rintro e w' ⟨rfl,rfl⟩;cases zu with
  |true=>
   have h:=HH1.out rfl;subst h;go_wp2_with fail
   go_ret2
   exact⟨rfl,cO.out⟩
  |false=>
   have h2:=HH2.out rfl;have h3:=HH3.out rfl;have hn2:=HN.out;have hu2:=HU.out;have hul:us.length≤24:=by omega
   have hlen:(us++ [nm]).length=us.length+1:=by simp
   have hih:=fun U A8 c8 (hU:Below W3.heap.size W3 U) (hs:SliceOf aY 1 16 U (old U.heap.size) (.slice A8 (us.length+1) c8) (us++ [nm]))=>
    HIH.out 10 ⟨#[]⟩ (us++ [nm]) x.dV U1 (some ⟨bt,off,none⟩) T2 L1 A8 u1 e1 e2 l1 c8 _ U (HMT.out x HXM.out) (aJ _) (by omega) (by rw[hlen];omega) (dI aN.stays HM.out (cO.out.trans (hU.mono cO.out.size))) (bK aU.stays HL.out (cO.out.trans (hU.mono cO.out.size))) (by rw[hlen];exact hs) (dI iD.stays XV.out hU)
   rw[hlen,←h2]at hih;have alg:=bK aY.stays HUS.out cO.out;have hdr:Below W3.heap.size W3 W3.drew:=by go_grown
   have HS:=Lib.hid (show ∀w',Below W3.heap.size W3 w'→(w'.cell? ⟨w.heap.size,0,none⟩=some (.slice U1 m.uses.length u1)∧w'.cell? ⟨w.heap.size,1,none⟩=some (.slice (some ⟨bt,off,none⟩) m.types.length e1)∧w'.cell? ⟨w.heap.size,2,none⟩=some (.slice T2 m.funcs.length e2)∧w'.cell? ⟨w.heap.size+1,2,none⟩=some (.string nm)∧w'.cell? ⟨bt,off+k*5+1,none⟩=some (.int .i64 x.dV.kind)∧w'.cell? ⟨bt,off+k*5+2,none⟩=some (.string x.dV.bT)∧w'.cell? ⟨bt,off+k*5+3,none⟩=some (.string x.dV.name)∧w'.cell? ⟨bt,off+k*5+4,none⟩=some (.slice A2 x.dV.args.length n2))from fun w' h=>⟨(h.cell (p:=⟨w.heap.size,0,none⟩) hq1).trans m0,(h.cell (p:=⟨w.heap.size,1,none⟩) hq1).trans m1,(h.cell (p:=⟨w.heap.size,2,none⟩) hq1).trans m2,(h.cell (p:=⟨w.heap.size+1,2,none⟩) hq2).trans t2,(h.cell (p:=⟨bt,off+k*5+1,none⟩) hq3).trans hc1,(h.cell (p:=⟨bt,off+k*5+2,none⟩) hq3).trans hc2,(h.cell (p:=⟨bt,off+k*5+3,none⟩) hq3).trans hc3,(h.cell (p:=⟨bt,off+k*5+4,none⟩) hq3).trans hc4⟩);obtain⟨bP,HUW,HIC,HUL,HLEN⟩:=ay hdr alg hih hul hlen;clear hdr alg hih hul hlen;clear h2 h3 hn2 hu2 HH1 HH2 HH3;go_upto_region 26 with fail
   go_cut [10,11] (fun s10 s11 wc=>s10=.string E.1∧s11=.int .i64 E.2∧Aside (Below W3.heap.size W3 wc))
   case first=>
    go_region_held3(fun w'=>w'.cell? ⟨w.heap.size,0,none⟩=some (.slice U1 m.uses.length u1)∧w'.cell? ⟨w.heap.size,1,none⟩=some (.slice (some ⟨bt,off,none⟩) m.types.length e1)∧w'.cell? ⟨w.heap.size,2,none⟩=some (.slice T2 m.funcs.length e2)∧w'.cell? ⟨w.heap.size+1,2,none⟩=some (.string nm)∧w'.cell? ⟨bt,off+k*5+1,none⟩=some (.int .i64 x.dV.kind)∧w'.cell? ⟨bt,off+k*5+2,none⟩=some (.string x.dV.bT)∧w'.cell? ⟨bt,off+k*5+3,none⟩=some (.string x.dV.name)∧w'.cell? ⟨bt,off+k*5+4,none⟩=some (.slice A2 x.dV.args.length n2))
     (exact HS.out _ (by first|exact bP.out|exact bP.out.alloc bP.out.size _|(go_grown;done)|exact(bP.out.alloc bP.out.size _).alloc (bP.out.alloc bP.out.size _).size _|exact bP.out.setCell (aJ _) _|exact(bP.out.setCell (aJ _) _).setCell (aJ _) _))
     (first
      |((go_at_call 167;(with_reducible refine(HIC.out _ _ _ bP.out vU.out).mono ?_);rintro e w9 ⟨rfl,oZ⟩;have hb8:=aS bP.out oZ;have bP:=Lib.hid hb8;clear hb8 oZ))
      |((refine Jr (e:=9) (G:=old W3.heap.size) _ 23 rfl rfl underlying23 (by kernel_rfl) rfl (HUW.out.stays aY.stays (fun _ h=>h) (Keeps.of_below (by first|exact bP.out|exact bP.out.alloc bP.out.size _) fun _ h=>h)) (fun k hk=>Nat.lt_of_lt_of_le hk (by first|exact bP.out.size|exact(bP.out.alloc bP.out.size _).size)) (by have:=HUL.out;omega) ?_;intro A7 c7 w7 Jj hg7;(first|(have hbx:Box w7 W3.heap.size 9 #[.string nm]:=hg7.box (Box.made _ _ _) (by simp);have oq:=Lib.hid hbx;clear hbx)|skip);have hb8:=(by first|exact bP.out.trans (hg7.below bP.out.size bP.out.size)|exact(bP.out.alloc bP.out.size _).trans (hg7.below (bP.out.alloc bP.out.size _).size (bP.out.alloc bP.out.size _).size):Below W3.heap.size W3 w7);have kY:=Jj.low (b:=W3.heap.size) (by first|exact bP.out.size|exact(bP.out.alloc bP.out.size _).size);have bP:=Lib.hid hb8;have BQ:=Lib.hid kY;clear hb8 Jj kY hg7))
      |((refine lK aY.stays (.string ⟨#[]⟩) [.string nm] nm _ _ 23 rfl rfl underlying23 (bytes:=16) (by kernel_rfl) (show aZ aY 1 9 W3.heap.size _ none_ _ us from by first|exact BQ.out|exact BQ.out.alloc aY.stays _) rfl rfl (by decide) rfl (by first|exact oq.out|exact heap_alloc_new _ _) rfl (show aY _ none_ _ _ from⟨rfl,hnm⟩) (aY.one (w:=W3) (F:=none_) _ _ ⟨rfl,hnm⟩) (fun k hk=>hk.elim) (by have:=HUL.out;unfold maxLen;omega) (by have:=HUL.out;omega) (by first|exact bP.out.size|exact(bP.out.alloc bP.out.size _).size) ?_;intro A8 c8 w8 kY F7 _;have hb8:=(by first|exact bP.out.trans (F7.below (aJ _) bP.out.size)|exact(bP.out.alloc bP.out.size _).trans (F7.below (aJ _) (bP.out.alloc bP.out.size _).size):Below W3.heap.size W3 w8);have hs8:=kY.slice aY.stays (jZ:=16) (F':=old w8.heap.size) (fun k hk=>hk.elim (fun h=>h.elim) (fun h=>h.elim)) (fun k _ hk=>hk) (by rw[HLEN.out];have:=HUL.out;omega) (by rw[HLEN.out];have:=HUL.out;omega);have bP:=Lib.hid hb8;have vU:=Lib.hid hs8;clear hb8 kY F7 hs8)))
    all_goals
     go_wp2_with fail;go_meet;exact⟨rfl,rfl,aside bP.out⟩
   case rest=>
   obtain⟨rfl,rfl,hb5⟩:=hcut;have ES:=cO.out.trans (hb5.out.mono cO.out.size);have oh:=ah ES;clear ES;clear hb5;go_wp2_with fail
   go_ret2
   exact⟨rfl,oh.out⟩
end Go.Proofs.YtjaladhdnbhliaaGreatDoor
