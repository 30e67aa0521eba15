/- Parts. -/
import Derived.Test.YtjaladhdnbhliaaGreatDoorQParse
set_option maxHeartbeats 8000000
set_option maxRecDepth 100000
namespace Go.Proofs.YtjaladhdnbhliaaGreatDoor
open Go.Proofs.Tryz
open Go.RowKit Go.Shelf
def TS(E:Module×Int)(w:World)(e:Ending)(w':World):Prop:=∃v1 v2 v3,e=.returned (.tuple #[.agg #[v1,v2,v3],.int .i64 E.2])∧Below w.heap.size w w'∧aN w' (fresh w.heap.size w'.heap.size) [v1,v2,v3] E.1
def aaJ(E:Module×Int)(w:World)(e:Ending)(w':World):Prop:=∃v1 v2 v3,e=.returned (.tuple #[.agg #[v1,v2,v3],.int .i64 E.2])∧Below w.heap.size w w'∧aN w' (fresh w.heap.size w'.heap.size) [v1,v2,v3] E.1∧acW w.heap.size w' v1 E.1
theorem Hg(w:World)(B:Nat):acW B w (.slice none 0 0) jJ:=aZ.nil_
theorem qE(w:World)(F:aV):aN w F [.slice none 0 0,.slice none 0 0,.slice none 0 0] jJ:=⟨_,_,_,rfl,SliceOf.nil_,SliceOf.nil_,SliceOf.nil_⟩
theorem Oq(s:ByteArray)(W0:World)(mx:Int)(hT:Tabs W0 mx):Calls prog 12 #[.string s] W0 (aaJ (kF s) W0):=by
 obtain⟨E,hE⟩:∃E,kF s=E:=⟨_,rfl⟩;rw[hE]
 by_cases h15:1500<s.size
 ·have Yj:(1500:Int)<(s.size:Int):=by omega
  obtain rfl:E=(jJ,1):=by rw[←hE,H6 h15]
  clear hE;go_enter func12,ntmps12;go_upto_region 1 with fail
  have hBr:=Box.made W0 27 #[.slice none 0 0,.slice none 0 0,.slice none 0 0];have hbr:Below W0.heap.size W0 (W0.alloc (.cells #[.slice none 0 0,.slice none 0 0,.slice none 0 0] 27)):=by go_grown
  have kJ:(W0.alloc (.cells #[.slice none 0 0,.slice none 0 0,.slice none 0 0] 27)).heap.size=W0.heap.size+1:=by simp
  generalize W0.alloc (.cells #[.slice none 0 0,.slice none 0 0,.slice none 0 0] 27)=W1 at hBr hbr kJ⊢;have x0:=hBr.at_ 0 _ rfl;have x1:=hBr.at_ 1 _ rfl;have x2:=hBr.at_ 2 _ rfl;have g0:=hBr.free 0;have g1:=hBr.free 1;have g2:=hBr.free 2;have Hb:=ah hbr;clear hbr;clear hBr kJ;go_wp2_with fail;refine bodyPost_ret (v:=.tuple #[.agg #[.slice none 0 0,.slice none 0 0,.slice none 0 0],.int .i64 1]) (by simp[results,results12,go_sem,x0,x1,x2]) rfl ?_;exact⟨_,_,_,rfl,((Hb.out.setCell (aJ _) _).setCell (aJ _) _).setCell (aJ _) _,qE _ _,Hg _ _⟩
 have Yj:¬(1500:Int)<(s.size:Int):=by omega
 have hpa:=fun U (hU:Below W0.heap.size W0 U)=>parse_any s U mx (by omega) (hT.later hU)
 obtain⟨HE,HPA,HS⟩:=ak hE hpa h15;clear hE hpa h15;go_enter func12,ntmps12;go_upto_region 1 with fail
 have hBr:=Box.made W0 27 #[.slice none 0 0,.slice none 0 0,.slice none 0 0];have hbr:Below W0.heap.size W0 (W0.alloc (.cells #[.slice none 0 0,.slice none 0 0,.slice none 0 0] 27)):=by go_grown
 have kJ:(W0.alloc (.cells #[.slice none 0 0,.slice none 0 0,.slice none 0 0] 27)).heap.size=W0.heap.size+1:=by simp
 generalize W0.alloc (.cells #[.slice none 0 0,.slice none 0 0,.slice none 0 0] 27)=W1 at hBr hbr kJ⊢;obtain⟨HB1,Hb⟩:=aj hBr hbr;clear hBr hbr;clear kJ;go_wp2_with fail;refine(HPA.out W1 Hb.out).mono ?_;rintro e W2 ⟨v1,v2,v3,k,rfl,hb2,hc⟩;have hB2:=HB1.out.later hb2 HB1.out.lt;have hbw2:=Hb.out.trans (hb2.mono Hb.out.size);have hs2:=hb2.size;have hs1:=Hb.out.size;have hrl:=HB1.out.lt;rcases hc with ⟨m,hp,rfl,hm,hou⟩|⟨hp,hk,U,n,c,T,p,d,X,q,e,rfl,rfl,rfl⟩
 ·obtain⟨U1,u1,T1,e1,T2,e2,hcs,_⟩:=aN.form hm;simp only[List.cons.injEq,and_true]at hcs;obtain⟨rfl,rfl,rfl⟩:=hcs;obtain⟨HM,HP,HB2,cO,HOU⟩:=ay hm hp hB2 hbw2 hou;clear hm hp hB2 hbw2 hou;clear hb2 HPA HB1;go_upto_region 4 with fail
  have hBm:=Box.made W2 27 #[.slice U1 m.uses.length u1,.slice T1 m.types.length e1,.slice T2 m.funcs.length e2];have hbm:Below W2.heap.size W2 (W2.alloc (.cells #[.slice U1 m.uses.length u1,.slice T1 m.types.length e1,.slice T2 m.funcs.length e2] 27)):=by go_grown
  have hzm:(W2.alloc (.cells #[.slice U1 m.uses.length u1,.slice T1 m.types.length e1,.slice T2 m.funcs.length e2] 27)).heap.size=W2.heap.size+1:=by simp
  generalize W2.alloc (.cells #[.slice U1 m.uses.length u1,.slice T1 m.types.length e1,.slice T2 m.funcs.length e2] 27)=W3 at hBm hbm hzm⊢;have hbw3:=cO.out.trans (hbm.mono cO.out.size);have hB3:=HB2.out.later hbm HB2.out.lt;have hM3:=aN.stays.later HM.out hbm cZ;have hO3:=aZ.below aY.stays HOU.out hbm;have hBl:=HB2.out.lt;have hck:=Oo m _ (fresh W1.heap.size W2.heap.size) W3 (fun k hk=>by have:=hk.2;have:=hbm.size;omega) hM3;have hs3:=hbm.size;obtain⟨z,hz⟩:∃z,dD m=z:=⟨_,rfl⟩;rw[hz]at hck;have x0:=hBm.at_ 0 _ rfl;have x1:=hBm.at_ 1 _ rfl;have x2:=hBm.at_ 2 _ rfl;have hml:=hBm.lt;have hmr:W2.heap.size≠W0.heap.size:=by omega
  obtain⟨HB3,fV,Tc,HO3,HCK,HZ,HBM⟩:=aB hB3 hbw3 hM3 hO3 hck hz hBm;clear hB3 hbw3 hM3 hO3 hck hz hBm;clear hbm hzm HB2 cO HM;go_wp2_with fail;refine HCK.out.mono ?_;rintro e W4 ⟨rfl,hb4⟩;have hB4:=HB3.out.later hb4 HB3.out.lt;have afj:=HBM.out.later hb4 HBM.out.lt;have hM4:=aN.stays.later Tc.out hb4 (fun k hk=>by have:=hk.2;omega);have hO4:=aZ.below aY.stays HO3.out hb4;have ER:=fV.out.trans (hb4.mono fV.out.size);have hs4:=hb4.size;clear x0 x1 x2;have x0:=afj.at_ 0 _ rfl;have x1:=afj.at_ 1 _ rfl;have x2:=afj.at_ 2 _ rfl;have r0:=hB4.at_ 0 _ rfl;have r1:=hB4.at_ 1 _ rfl;have r2:=hB4.at_ 2 _ rfl;have g0:=hB4.free 0;have g1:=hB4.free 1;have g2:=hB4.free 2;obtain⟨pY,TK,zl⟩:=ak ER hM4 hO4;clear ER hM4 hO4;clear hb4 hB4 afj HB3 HBM Tc HCK fV
  by_cases hz0:z=0
  ·subst hz0;have hx:E=(m,0):=by rw[←HE.out,RU (by have:=HS.out;omega) HP.out HZ.out]
   subst hx;go_wp2_with fail;refine bodyPost_ret (v:=.tuple #[.agg #[.slice U1 m.uses.length u1,.slice T1 m.types.length e1,.slice T2 m.funcs.length e2],.int .i64 0]) (by simp[results,results12,go_sem,r0,r1,r2]) rfl ?_;refine⟨_,_,_,rfl,((pY.out.setCell (aJ _) _).setCell (aJ _) _).setCell (aJ _) _,?_,?_⟩;rotate_left
   ·exact(((zl.out.set aY.stays (p:=⟨W0.heap.size,0,none⟩) (show W0.heap.size<_ by omega) (fun k hk=>hk.elim) _).set aY.stays (p:=⟨W0.heap.size,1,none⟩) (show W0.heap.size<_ by omega) (fun k hk=>hk.elim) _).set aY.stays (p:=⟨W0.heap.size,2,none⟩) (show W0.heap.size<_ by omega) (fun k hk=>hk.elim) _).low (by omega)
   have hnr:¬fresh W1.heap.size W2.heap.size W0.heap.size:=fun h=>by have:=h.1;omega
   refine aN.stays _ _ _ _ _ _ TK.out ?_ ((((Keeps.refl _ _).setCell hnr _).setCell hnr _).setCell hnr _);simp only[size_set];exact jQ (by omega) (by omega)
  ·have hz1:(z==0)=false:=by simp[hz0]
   have hz2:(z !=0)=true:=by simp[hz0]
   have hx:E=(jJ,z):=by rw[←HE.out,DX (by have:=HS.out;omega) HP.out (by rw[HZ.out];exact hz0),HZ.out]
   subst hx;clear hz0;go_wp2_with fail;refine bodyPost_ret (v:=.tuple #[.agg #[.slice none 0 0,.slice none 0 0,.slice none 0 0],.int .i64 z]) (by simp[results,results12,go_sem,r0,r1,r2]) rfl ?_;exact⟨_,_,_,rfl,((pY.out.setCell (aJ _) _).setCell (aJ _) _).setCell (aJ _) _,qE _ _,Hg _ _⟩
 ·have hx:E=(jJ,k):=by rw[←HE.out,Me (by have:=HS.out;omega) hp]
  have hk1:(k==0)=false:=by simp[hk]
  have hk2:(k !=0)=true:=by simp[hk]
  subst hx;obtain⟨HB2,cO⟩:=aj hB2 hbw2;clear hB2 hbw2;clear hb2 HPA HB1 hk hp;go_upto_region 4 with fail
  have hBm:=Box.made W2 27 #[.slice U n c,.slice T p d,.slice X q e];have hbm:Below W2.heap.size W2 (W2.alloc (.cells #[.slice U n c,.slice T p d,.slice X q e] 27)):=by go_grown
  have hzm:(W2.alloc (.cells #[.slice U n c,.slice T p d,.slice X q e] 27)).heap.size=W2.heap.size+1:=by simp
  generalize W2.alloc (.cells #[.slice U n c,.slice T p d,.slice X q e] 27)=W3 at hBm hbm hzm⊢;have hbw3:=cO.out.trans (hbm.mono cO.out.size);have hB3:=HB2.out.later hbm HB2.out.lt;have r0:=hB3.at_ 0 _ rfl;have r1:=hB3.at_ 1 _ rfl;have r2:=hB3.at_ 2 _ rfl;have g0:=hB3.free 0;have g1:=hB3.free 1;have g2:=hB3.free 2;have fV:=ah hbw3;clear hbw3;clear hbm hzm hB3 hBm;go_wp2_with fail;refine bodyPost_ret (v:=.tuple #[.agg #[.slice none 0 0,.slice none 0 0,.slice none 0 0],.int .i64 k]) (by simp[results,results12,go_sem,r0,r1,r2]) rfl ?_;exact⟨_,_,_,rfl,((fV.out.setCell (aJ _) _).setCell (aJ _) _).setCell (aJ _) _,qE _ _,Hg _ _⟩
theorem SI(s:ByteArray)(W0:World)(mx:Int)(hT:Tabs W0 mx):Calls prog 12 #[.string s] W0 (TS (kF s) W0):=
 (Oq s W0 mx hT).mono fun _ _ ⟨v1,v2,v3,h1,h2,h3,_⟩=>⟨v1,v2,v3,h1,h2,h3⟩
theorem ML(m:Module)(l:List Import)(hm0:dD m=0)(n f:Nat)(ih:Zz m l n)(v:ByteArray)(us:List ByteArray)(nm:ByteArray)(args:List Ty)(A:Option Addr)(cap:Nat)(b:Nat)(U1 T1 T2 L1 S1:Option Addr)(u1 e1 e2 l1 s1:Nat)(w:World)
  (hv0:nm≠v) (hnm:okS nm) (hn:f+1+11*lM m us≤n+1) (hu:us.length+lM m us≤24)
  (hm:aN w (old w.heap.size) [.slice U1 m.uses.length u1,.slice T1 m.types.length e1,.slice T2 m.funcs.length e2] m) (hl:SliceOf aU 4 72 w (old w.heap.size) (.slice L1 l.length l1) l) (hus:SliceOf aY 1 16 w (old w.heap.size) (.slice S1 us.length s1) us)
  (hB:Box w b 214 #[.slice U1 m.uses.length u1,.slice T1 m.types.length e1,.slice T2 m.funcs.length e2,.slice L1 l.length l1,.string v,.slice S1 us.length s1]):
  Calls prog 154 #[.pointer (some ⟨b,0,none⟩),.agg #[.int .i64 4,.string ⟨#[]⟩,.string nm,.slice A args.length cap]] w fun e w'=>e=.returned (.tuple #[.string (bW m l (n+1) v us (.mk 4 ⟨#[]⟩ nm args)).1,.int .i64 (bW m l (n+1) v us (.mk 4 ⟨#[]⟩ nm args)).2])∧Below w.heap.size w w':=by
 have hq:(nm.toList==v.toList)=false:=by rw[str_eq];exact decide_eq_false hv0
 have hT:SliceOf aQ 5 80 w (old w.heap.size) (.slice T1 m.types.length e1) m.types:=by
  obtain⟨_,_,_,he,_,h2,_⟩:=hm;simp only[List.cons.injEq,and_true]at he;obtain⟨rfl,rfl,rfl⟩:=he;exact h2
 have hk:=xR (bU nm) m.types;have hE0:=fun h=>MP (m:=m) (l:=l) (n:=n) (v:=v) (us:=us) (o:=⟨#[]⟩) (args:=args) rfl hv0 (ZL (p:=bU nm) h)
 have hE1:=fun(k:Nat) (x:Field) h1 h2 h3 h4=>IY (m:=m) (l:=l) (n:=n) (v:=v) (us:=us) (o:=⟨#[]⟩) (args:=args) rfl hv0 (Bf (k:=k) (x:=x) (p:=bU nm) h1 h2 h3) h4
 have hE2:=fun(k:Nat) (x:Field) h1 h2 h3 h4=>MO (m:=m) (l:=l) (n:=n) (v:=v) (us:=us) (o:=⟨#[]⟩) (args:=args) rfl hv0 (Bf (k:=k) (x:=x) (p:=bU nm) h1 h2 h3) h4
 have hfl:=fun(k:Nat) (x:Field) h1 h2 h3 h4=>Gy (m:=m) (us:=us) (Bf (k:=k) (x:=x) (p:=bU nm) h1 h2 h3) h4
 obtain⟨E,hE⟩:∃E,bW m l (n+1) v us (.mk 4 ⟨#[]⟩ nm args)=E:=⟨_,rfl⟩;rw[hE]at hE0 hE1 hE2⊢;have hmt:=PV hm0;obtain⟨Xr,vk,HE2,HFL,HM,HL,HUS,HIH,HT,HK,HN,HU⟩:=aI hE0 hE1 hE2 hfl hm hl hus ih hT hk hn hu;have HMT:=ah hmt;clear hE0 hE1 hE2 hfl hm hl hus ih hT hk hn hu hmt;clear hE hm0;go_enter func154,ntmps154;go_upto_region 19 with fail
 have hBt:=Box.made w 75 #[.int .i64 4,.string ⟨#[]⟩,.string nm,.slice A args.length cap];have hbt:Below w.heap.size w (w.alloc (.cells #[.int .i64 4,.string ⟨#[]⟩,.string nm,.slice A args.length cap] 75)):=by go_grown
 have pW:(w.alloc (.cells #[.int .i64 4,.string ⟨#[]⟩,.string nm,.slice A args.length cap] 75)).heap.size=w.heap.size+1:=by simp
 generalize w.alloc (.cells #[.int .i64 4,.string ⟨#[]⟩,.string nm,.slice A args.length cap] 75)=W1 at hBt hbt pW⊢;have hBs:=hB.later hbt hB.lt;have x4:=hBs.at_ 4 _ rfl;have t2:=hBt.at_ 2 _ rfl;go_cut [80] (fun s80 wc=>s80=.bool false∧Aside (Below W1.heap.size W1 wc))
 case first=>
  go_quiet(fail);go_wp2_with fail;go_meet;exact⟨by simp only[hq],aside (below_drewN (Below.refl _ _) _)⟩
 case rest=>
 obtain⟨rfl,hb2⟩:=hcut;obtain⟨W2,rfl⟩:∃W,W=wc:=⟨_,rfl⟩;have ahR:=hBs.later hb2.out hBs.lt;have NV:=hBt.later hb2.out hBt.lt;have hbw:=hbt.trans (hb2.out.mono hbt.size);clear x4 t2;have x1:=ahR.at_ 1 _ rfl;have t2:=NV.at_ 2 _ rfl;have hix:=Sl m.types T1 e1 nm w.heap.size (old W2.heap.size) W2 eF (bK aQ.stays HT.out hbw) t2;obtain⟨z,hz⟩:∃z,fidx (bU nm) m.types=z:=⟨_,rfl⟩;have hk:=HK.out;rw[hz]at hix hk;obtain⟨HIX,Qz,HBt,cO,XJ⟩:=ay hix ahR NV hbw hk;clear hix ahR NV hbw hk;clear hBs hBt hbt pW hz hb2 hB HK;go_wp2_with fail;refine HIX.out.mono ?_;rintro e W3 ⟨rfl,hb3⟩;have hbw:=cO.out.trans (hb3.mono cO.out.size);have afi:=Qz.out.later hb3 Qz.out.lt;have Uy:=HBt.out.later hb3 HBt.out.lt;clear x1 t2;rcases XJ.out with ⟨rfl,hall⟩|⟨k,x,rfl,hx,hfx,hall⟩
 ·have h:=Xr.out hall;subst h;have fV:=ah hbw;clear hbw;clear afi Uy hb3 hall;go_wp2_with fail
  go_ret2
  exact⟨rfl,fV.out⟩
 ·have hkz:decide ((k:Int)<0)=false:=decide_eq_false (by omega);have ah2:¬(k:Int)<0:=by omega
  have hxm:=List.mem_of_getElem? hx;have hkl:k<m.types.length:=(List.getElem?_eq_some_iff.1 hx).1;have h1:=vk.out k x hx hfx hall;have h2:=HE2.out k x hx hfx hall;have h3:=HFL.out k x hx hfx hall;have hxe:m.types[k]=x:=(List.getElem?_eq_some_iff.1 hx).2;have hcon:=fun q=>qL (.slice S1 us.length s1) us (old W3.heap.size) nm (W3.drewN q) ((bK aY.stays HUS.out hbw).stays aY.stays (fun _ h=>h) ((Keeps.refl _ _).drewN q))
  obtain⟨zu,hzu⟩:∃z,o9 us nm=z:=⟨_,rfl⟩;rw[hzu]at hcon h1 h2 h3;have UE:=fun q=>(hcon q).mono fun e w' h=>(⟨h.1,h.2.symm⟩:e=.returned (.bool zu)∧w'=W3.drewN q)
  have x5:=afi.at_ 5 _ rfl;have t2:=Uy.at_ 2 _ rfl;obtain⟨XE,HH1,HH2,HH3,ajl,ajm,fV,HXM,HXE⟩:=aF UE h1 h2 h3 afi Uy hbw hxm hxe;clear UE h1 h2 h3 afi Uy hbw hxm hxe;clear hcon hzu hall hfx hx hb3;go_upto_region 24 with fail
  go_cut [98] (fun s98 wc=>s98=.bool zu∧Aside (Below W3.heap.size W3 wc))
  case first=>
   go_quiet((go_at_call 96;exact Calls.quiet_of_same (XE.out _)));go_wp2_with fail;go_meet;exact⟨rfl,aside (below_drewN (Below.refl _ _) _)⟩
  case rest=>
  obtain⟨rfl,hb4⟩:=hcut;obtain⟨W4,rfl⟩:∃W,W=wc:=⟨_,rfl⟩;have hbw:=fV.out.trans (hb4.out.mono fV.out.size);have hBs:=ajl.out.later hb4.out ajl.out.lt;have hBt:=ajm.out.later hb4.out ajm.out.lt;clear x5 t2;cases zu with
  |true=>
   have h:=HH1.out rfl;subst h;have pY:=ah hbw;clear hbw;clear hBs hBt hb4;go_wp2_with fail
   go_ret2
   exact⟨rfl,pY.out⟩
  |false=>
   have hls:=hBs.lt;have hlt:=hBt.lt;have hS:∀w',Below W4.heap.size W4 w'→w'.cell? ⟨b,0,none⟩=some (.slice U1 m.uses.length u1)∧w'.cell? ⟨b,1,none⟩=some (.slice T1 m.types.length e1)∧w'.cell? ⟨b,2,none⟩=some (.slice T2 m.funcs.length e2)∧w'.cell? ⟨b,3,none⟩=some (.slice L1 l.length l1)∧w'.cell? ⟨b,5,none⟩=some (.slice S1 us.length s1)∧w'.cell? ⟨w.heap.size,2,none⟩=some (.string nm):=fun w' h=>
    ⟨(h.cell (p:=⟨b,0,none⟩) hls).trans (hBs.at_ 0 _ rfl),(h.cell (p:=⟨b,1,none⟩) hls).trans (hBs.at_ 1 _ rfl),(h.cell (p:=⟨b,2,none⟩) hls).trans (hBs.at_ 2 _ rfl),(h.cell (p:=⟨b,3,none⟩) hls).trans (hBs.at_ 3 _ rfl),(h.cell (p:=⟨b,5,none⟩) hls).trans (hBs.at_ 5 _ rfl),(h.cell (p:=⟨w.heap.size,2,none⟩) hlt).trans (hBt.at_ 2 _ rfl)⟩
   have hcl:=fun U (hU:Below w.heap.size w U)=>BZ (.slice S1 us.length s1) us (old U.heap.size) U (bK aY.stays HUS.out hU) eF
   have hul:us.length≤24:=by have:=HU.out;omega
   have hdr:Below W4.heap.size W4 W4.drew:=by go_grown
   have hlen:(us++ [nm]).length=us.length+1:=by simp
   obtain⟨HS,bP,Qz,HBt,cO,Gh,HUL,HLEN⟩:=aC hS hdr hBs hBt hbw hcl hul hlen;clear hS hdr hBs hBt hbw hcl hul hlen;clear hls hlt hb4;go_upto_region 26 with fail
   go_cut [15] (fun s15 wc=>∃(nb:Nat) (A8:Option Addr) (c8:Nat),s15=.pointer (some ⟨nb,0,none⟩)∧Aside (Box wc nb 214 #[.slice U1 m.uses.length u1,.slice T1 m.types.length e1,.slice T2 m.funcs.length e2,.slice L1 l.length l1,.string ⟨#[]⟩,.slice A8 (us.length+1) c8])∧Aside (Below W4.heap.size W4 wc)∧Aside (SliceOf aY 1 16 wc (old wc.heap.size) (.slice A8 (us.length+1) c8) (us++ [nm])))
   case first=>
    go_region_held3(fun w'=>w'.cell? ⟨b,0,none⟩=some (.slice U1 m.uses.length u1)∧w'.cell? ⟨b,1,none⟩=some (.slice T1 m.types.length e1)∧w'.cell? ⟨b,2,none⟩=some (.slice T2 m.funcs.length e2)∧w'.cell? ⟨b,3,none⟩=some (.slice L1 l.length l1)∧w'.cell? ⟨b,5,none⟩=some (.slice S1 us.length s1)∧w'.cell? ⟨w.heap.size,2,none⟩=some (.string nm))
     (exact HS.out _ (by first|exact bP.out|exact bP.out.alloc bP.out.size _|(go_grown;done)))
     (first
      |((go_at_call 60;(first|(with_reducible refine(Gh.out _ (cO.out.trans (bP.out.mono cO.out.size))).mono ?_)|(with_reducible refine(Gh.out _ (cO.out.trans ((show Below W4.heap.size W4 _ from by go_grown).mono cO.out.size))).mono ?_)|(with_reducible refine(Gh.out _ (cO.out.trans ((bP.out.alloc bP.out.size _).mono cO.out.size))).mono ?_));rintro e w7 ⟨v7,rfl,hb7,Jj⟩;obtain⟨A7,c7,rfl,_,_⟩:=Jj.form;(first|(have hbx:Box w7 W4.heap.size 9 #[.string nm]:=(by first|exact iI hb7|exact gI hb7);have oq:=Lib.hid hbx;clear hbx)|skip);have hb8:=(by first|exact aS bP.out hb7|exact iJ hb7|exact lW bP.out hb7:Below W4.heap.size W4 w7);have kY:=Jj.low (b:=W4.heap.size) (by first|exact bP.out.size|(simp;done)|exact(bP.out.alloc bP.out.size _).size);have bP:=Lib.hid hb8;have BQ:=Lib.hid kY;clear hb7 hb8 Jj kY))
      |((refine lK aY.stays (.string ⟨#[]⟩) [.string nm] nm _ _ 23 rfl rfl underlying23 (bytes:=16) (by kernel_rfl) (show aZ aY 1 9 W4.heap.size _ none_ _ us from by first|exact BQ.out|exact BQ.out.alloc aY.stays _) rfl rfl (by decide) rfl (by first|exact oq.out|exact heap_alloc_new _ _) rfl (show aY _ none_ _ _ from⟨rfl,hnm⟩) (aY.one (w:=W4) (F:=none_) _ _ ⟨rfl,hnm⟩) (fun k hk=>hk.elim) (by have:=HUL.out;unfold maxLen;omega) (by have:=HUL.out;omega) (by first|exact bP.out.size|exact(bP.out.alloc bP.out.size _).size) ?_;intro A8 c8 w8 kY F7 _;have hb8:=(by first|exact bP.out.trans (F7.below (aJ _) bP.out.size)|exact(bP.out.alloc bP.out.size _).trans (F7.below (aJ _) (bP.out.alloc bP.out.size _).size):Below W4.heap.size W4 w8);have bP:=Lib.hid hb8;have vU:=Lib.hid kY;clear hb8 kY F7)))
    all_goals
     go_wp2_with fail;go_meet;refine⟨_,A8,c8,rfl,aside (Box.made _ _ _),aside (bP.out.alloc bP.out.size _),aside (bK aY.stays (vU.out.slice aY.stays (F':=old w8.heap.size) (fun k hk=>hk.elim (fun h=>h.elim) (fun h=>h.elim)) (fun k _ hk=>hk) (by rw[HLEN.out];have:=HUL.out;omega) (by rw[HLEN.out];have:=HUL.out;omega)) ((Below.refl _ _).alloc (aJ _) _))⟩
   case rest=>
   obtain⟨nb,A8,c8,rfl,hbx,hb5,alf⟩:=hcut;obtain⟨W5,rfl⟩:∃W,W=wc:=⟨_,rfl⟩;have ES:=cO.out.trans (hb5.out.mono cO.out.size);have QO:=Qz.out.later hb5.out Qz.out.lt;have x1:=QO.at_ 1 _ rfl;obtain⟨bt,off,cs,rfl,jc,hcs,hfr,hcell⟩:=(bK aQ.stays HT.out ES).at_ (k:=k) hkl;rw[HXE.out]at hfr;obtain⟨y1,y2,y3,y4,rfl,_,hty⟩:=aQ.form hfr;obtain⟨A2,n2,hf⟩:=iD.form hty;simp only[List.cons.injEq,and_true]at hf;obtain⟨rfl,rfl,rfl,rfl⟩:=hf;have hc0:=hcell 0 _ rfl;have hc1:=hcell 1 _ rfl;have hc2:=hcell 2 _ rfl;have hc3:=hcell 3 _ rfl;have hc4:=hcell 4 _ rfl;simp only[Nat.add_zero]at hc0;have h2:=HH2.out rfl;have h3:=HH3.out rfl;have hn2:=HN.out;have hu2:=HU.out;have hca:=HIH.out 10 ⟨#[]⟩ (us++ [nm]) x.dV nb U1 (some ⟨bt,off,none⟩) T2 L1 A8 u1 e1 e2 l1 c8 _ W5 (HMT.out x HXM.out) (aJ _) (by omega) (by rw[HLEN.out];omega) (Nat.zero_le _) (dI aN.stays HM.out ES) (bK aU.stays HL.out ES) (by rw[HLEN.out];exact alf.out) (by rw[HLEN.out];exact hbx.out) hty;rw[←h2]at hca;have an8:(k:Int)<(m.types.length:Int):=by omega
   obtain⟨Zp,oh⟩:=aj hca ES;clear hca ES;clear h2 h3 hn2 hu2 hcell hbx hb5 alf QO jc hcs hfr hty;go_wp2_with fail;refine Zp.out.mono ?_;rintro e W6 ⟨rfl,hb6⟩;have Dl:=oh.out.trans (hb6.mono oh.out.size);have BG:=ah Dl;clear Dl;clear hb6;go_wp2_with fail
   go_ret2
   exact⟨rfl,BG.out⟩
end Go.Proofs.YtjaladhdnbhliaaGreatDoor
