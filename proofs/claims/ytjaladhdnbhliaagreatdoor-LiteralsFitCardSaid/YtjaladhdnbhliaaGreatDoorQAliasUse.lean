/- Parts. -/
import Derived.Test.YtjaladhdnbhliaaGreatDoorQTreeChk
set_option maxHeartbeats 8000000
set_option maxRecDepth 100000
namespace Go.Proofs.YtjaladhdnbhliaaGreatDoor
open Go.Proofs.Tryz
open Go.RowKit Go.Shelf
def vP(m:Module)(l:List Import)(i:Nat):List og:=
 match m.uses[i]? with
 |some s=>if o9 (m.uses.take i) s then[⟨s,4⟩]else if ku m l s then[]else[⟨s,3⟩]
 |none=> []
def AX(m:Module)(l:List Import)(n:Nat):List og:=(List.range n).flatMap (vP m l)
def mQ(m:Module)(l:List Import):List og:=AX m l m.uses.length
theorem AY(m:Module)(l:List Import)(n:Nat):AX m l (n+1)=AX m l n++vP m l n:=by
 unfold AX;rw[List.range_succ,List.flatMap_append];simp
theorem Zn(m:Module)(l:List Import)(i:Nat):(vP m l i).length≤1:=by
 unfold vP;split
 ·split
  ·simp
  ·split<;>simp
 ·simp
theorem um(m:Module)(l:List Import):∀n,(AX m l n).length≤n
 |0=>by simp[AX]
 |n+1=>by
  rw[AY,List.length_append];have:=um m l n;have:=Zn m l n;omega
theorem SliceOf.take{α:Type}{R:CR α}{sz jZ:Nat}{F:aV}{w:World}{A:Option Addr}{n cap:Nat}{l:List α}(h:SliceOf R sz jZ w F (.slice A n cap) l){k:Nat}(hk:k≤l.length):SliceOf R sz jZ w F (.slice A k cap) (l.take k):=by
 obtain⟨A',cap',e,h1,h2,h3,h3',h4⟩:=h;injection e with e1 e2 e3
 subst e1;subst e3;have hl:(l.take k).length=k:=by rw[List.length_take];omega
 refine⟨A,cap,by rw[hl],by omega,h2,?_,by omega,fun h0=>?_⟩
 ·rw[hl];exact Nat.le_trans (Nat.mul_le_mul_right _ hk) h3
 ·obtain⟨b,off,hA,hb,hx⟩:=h4 (by omega);refine⟨b,off,hA,hb,fun i x hi=>hx i x ?_⟩;rw[List.getElem?_take]at hi;split at hi
  ·exact hi
  ·cases hi
theorem lC{d:og}:∀u∈[Value.string d.qK,.int .i64 d.code],u.oneCell'=true:=by
 intro u hu;simp only[List.mem_cons,List.not_mem_nil,or_false]at hu;rcases hu with rfl|rfl<;>rfl
theorem J6(m:Module)(l:List Import)(cs:List Value)(v:Value)(F G:aV)(w:World)(hF:∀k,F k→k<w.heap.size)(hG:∀k,G k→k<w.heap.size)
  (hm:aN w F cs m) (hl:SliceOf aU 4 72 w G v l) (ng:m.uses.length≤24):
  Calls prog 46 #[.agg cs.toArray,v] w fun e w'=>∃v':Value,e=.returned v'∧Below w.heap.size w w'∧SliceOf bn 2 24 w' (fresh w.heap.size w'.heap.size) v' (mQ m l)∧aZ bn 2 53 w.heap.size w' none_ v' (mQ m l):=by
 have hfr:=fun t U (hU:Below w.heap.size w U)=>vX m l t cs v F G U (bg hF hU) (bg hG hU) (aN.stays.later hm hU hF) (hl.up aU.stays hG hU)
 obtain⟨U1,u1,T1,e1,T2,e2,rfl,hu,ht,hf⟩:=aN.form hm;obtain⟨L1,l1,rfl,_,_,hll,_⟩:=hl.form;obtain⟨_,_,_,_,_,hul,_⟩:=hu.form;obtain⟨HU,JJ,rG⟩:=ak hu hfr ng;clear hu hfr ng;clear ht hf hm hl;go_enter func46,ntmps46;go_wp2_with fail;have hBb:=Box.made w 27 #[.slice U1 m.uses.length u1,.slice T1 m.types.length e1,.slice T2 m.funcs.length e2];have hbb:Below w.heap.size w (w.alloc (.cells #[.slice U1 m.uses.length u1,.slice T1 m.types.length e1,.slice T2 m.funcs.length e2] 27)):=by go_grown
 have hzb:(w.alloc (.cells #[.slice U1 m.uses.length u1,.slice T1 m.types.length e1,.slice T2 m.funcs.length e2] 27)).heap.size=w.heap.size+1:=by simp
 generalize w.alloc (.cells #[.slice U1 m.uses.length u1,.slice T1 m.types.length e1,.slice T2 m.funcs.length e2] 27)=W1 at hBb hbb hzb⊢;obtain⟨HB,Hb,Hz⟩:=ak hBb hbb hzb;clear hBb hbb hzb;go_loopg [5,6,7,9,13,25,37] m.uses.length (fun gg s5 _ _ _ s13 _ _ wr=>∃(kk:Nat) (A:Option Addr) (n c:Nat) (xs:List og),kk≤m.uses.length∧m.uses.length-kk≤gg∧s13=.int .i64 kk∧s5=.slice A n c∧Aside (n=xs.length)∧Aside (xs=AX m l kk)∧
  Aside (aZ bn 2 53 W1.heap.size wr none_ (.slice A n c) xs)∧Aside (Below W1.heap.size W1 wr))
 case atStart=>exact⟨0,none,0,0,[],Nat.zero_le _,by omega,rfl,rfl,aside rfl,aside rfl,aside aZ.nil_,aside (Below.refl _ _)⟩
 case round=>
  obtain⟨kk,A,n,c,xs,hkk,hg,rfl,rfl,hn,hxs,hO,BW⟩:=hrel;have hB1:=HB.out.later BW.out HB.out.lt;have hbw:=Hb.out.trans (BW.out.mono Hb.out.size)
  by_cases hlt:kk<m.uses.length
  ·have hltz:(kk:Int)<(m.uses.length:Int):=by omega
   have hat:=HU.out.up aY.stays hF hbw;obtain⟨b1,off,cs,rfl,jc,hcs,⟨rfl,hos⟩,hcell⟩:=hat.at_ hlt;have hc0:=hcell 0 _ rfl;simp only[Nat.mul_one,Nat.add_zero]at hc0;have hx:=aK hlt;generalize m.uses[kk]=t at*;have hlen:xs.length≤kk:=by rw[hxs.out];exact um m l kk
   have hcl:=JJ.out t wr hbw;have hsucc:=AY m l kk;have hud:vP m l kk=if o9 (m.uses.take kk) t then[⟨t,4⟩]else if ku m l t then[]else[⟨t,3⟩]:=by unfold vP;rw[hx]
   obtain⟨z1,hz1⟩:∃z,ku m l t=z:=⟨_,rfl⟩;rw[hz1]at hcl hud;have x0:=hB1.at_ 0 _ rfl;have x1:=hB1.at_ 1 _ rfl;have x2:=hB1.at_ 2 _ rfl;obtain⟨HX,HAT,cO,HB1,HLEN,Gh,HS,HUD⟩:=aC hx hat hbw hB1 hlen hcl hsucc hud;clear hx hat hbw hB1 hlen hcl hsucc hud;clear hcell hcs hz1;go_wp2_with fail;refine Gh.out.mono ?_;rintro e W2 ⟨ds,rfl,hb2,hfr⟩;obtain⟨P1,p1,P2,p2,rfl⟩:=bD.form hfr;clear hfr x0 x1 x2 hc0;have hB2:=HB1.out.later hb2 HB1.out.lt;have hO2:=hO.out.below bn.stays hb2;have hbw2:=BW.out.trans (hb2.mono BW.out.size);obtain⟨HB2,HO2,rH,ajb⟩:=au hB2 hO2 hbw2 hb2;clear hB2 hO2 hbw2 hb2;go_upto_region 6 with fail
   have hBc:=Box.made W2 42 #[.slice P1 (bZ m l t).types.length p1,.slice P2 (bZ m l t).funcs.length p2];have hbc:Below W2.heap.size W2 (W2.alloc (.cells #[.slice P1 (bZ m l t).types.length p1,.slice P2 (bZ m l t).funcs.length p2] 42)):=by go_grown
   have hzc:(W2.alloc (.cells #[.slice P1 (bZ m l t).types.length p1,.slice P2 (bZ m l t).funcs.length p2] 42)).heap.size=W2.heap.size+1:=by simp
   generalize W2.alloc (.cells #[.slice P1 (bZ m l t).types.length p1,.slice P2 (bZ m l t).funcs.length p2] 42)=W3 at hBc hbc hzc⊢;have hB3:=HB2.out.later hbc HB2.out.lt;have x0:=hB3.at_ 0 _ rfl;have hO3:=HO2.out.below bn.stays hbc;have hbw3:=rH.out.trans (hbc.mono rH.out.size);have hcon:=qL (.slice (some ⟨b1,off,none⟩) kk u1) (m.uses.take kk) F t W3 ((HAT.out.take (by omega)).up aY.stays (bg hF cO.out) (ajb.out.trans (hbc.mono ajb.out.size)));obtain⟨z2,hz2⟩:∃z,o9 (m.uses.take kk) t=z:=⟨_,rfl⟩;have hud:=HUD.out;rw[hz2]at hcon hud;obtain⟨XE,XY,HO3,fV⟩:=au hcon hud hO3 hbw3;clear hcon hud hO3 hbw3;clear hz2 hB3 hBc hbc hzc;cases z2 with
   |true=>
    go_wp2_with(first
     |(go_at_call 96;refine XE.out.mono ?_;rintro e w' ⟨rfl,rfl⟩)
     |(at_builtin;go_must((refine bH bn.stays (.agg #[.string ⟨#[]⟩,.int .i64 0]) [.string t,.int .i64 4] ⟨t,4⟩ rfl rfl underlying43 (bytes:=24) (by kernel_rfl) HO3.out rfl rfl (by decide) rfl rfl (show bn W3 none_ _ _ from⟨rfl,hos,(show I64 4 from⟨by decide,by decide⟩)⟩) (lC (d:=⟨t,4⟩)) (fun k hk=>hk.elim) (by unfold maxLen;have:=HLEN.out;omega) (by have:=HLEN.out;have:=rG.out;omega) (by have:=fV.out.size;omega) ?_);(intro A4 c4 W4 hO4 hgr _;have hb4:=hgr.below (B:=W1.heap.size) (aJ _) fV.out.size;have zl:=Lib.hid hO4;have HB4:=Lib.hid hb4;clear hO4 hgr hb4))))
    go_roundg (m.uses.length-(kk+1))
    case measure=>omega
    case rel=>
     refine⟨kk+1,A4,xs.length+1,c4,xs++ [⟨t,4⟩],by omega,by omega,by go_num,rfl,aside (by simp),aside ?_,aside (aZ.wider bn.stays zl.out (fun k hk=>hk.elim id id) (fun k hk=>hk.elim)),aside (fV.out.trans HB4.out)⟩;rw[HS.out,XY.out,hxs.out];simp
   |false=>
    cases z1 with
    |false=>
     go_wp2_with(first
      |(go_at_call 96;refine XE.out.mono ?_;rintro e w' ⟨rfl,rfl⟩)
      |(at_builtin;go_must((refine bH bn.stays (.agg #[.string ⟨#[]⟩,.int .i64 0]) [.string t,.int .i64 3] ⟨t,3⟩ rfl rfl underlying43 (bytes:=24) (by kernel_rfl) HO3.out rfl rfl (by decide) rfl rfl (show bn W3 none_ _ _ from⟨rfl,hos,(show I64 3 from⟨by decide,by decide⟩)⟩) (lC (d:=⟨t,3⟩)) (fun k hk=>hk.elim) (by unfold maxLen;have:=HLEN.out;omega) (by have:=HLEN.out;have:=rG.out;omega) (by have:=fV.out.size;omega) ?_);(intro A4 c4 W4 hO4 hgr _;have hb4:=hgr.below (B:=W1.heap.size) (aJ _) fV.out.size;have zl:=Lib.hid hO4;have HB4:=Lib.hid hb4;clear hO4 hgr hb4))))
     go_roundg (m.uses.length-(kk+1))
     case measure=>omega
     case rel=>
      refine⟨kk+1,A4,xs.length+1,c4,xs++ [⟨t,3⟩],by omega,by omega,by go_num,rfl,aside (by simp),aside ?_,aside (aZ.wider bn.stays zl.out (fun k hk=>hk.elim id id) (fun k hk=>hk.elim)),aside (fV.out.trans HB4.out)⟩;rw[HS.out,XY.out,hxs.out];simp
    |true=>
     go_wp2_with(go_at_call 96;refine XE.out.mono ?_;rintro e w' ⟨rfl,rfl⟩);go_roundg (m.uses.length-(kk+1))
     case measure=>omega
     case rel=>
      refine⟨kk+1,A,n,c,xs,by omega,by omega,by go_num,rfl,aside hn.out,aside ?_,aside HO3.out,aside fV.out⟩;rw[HS.out,XY.out,hxs.out];simp
  ·have hltz:¬(kk:Int)<(m.uses.length:Int):=by omega
   obtain rfl:kk=m.uses.length:=by omega
   have hlen:xs.length≤m.uses.length:=by rw[hxs.out];exact um m l _
   have hsl:=hO.out.slice bn.stays (jZ:=24) (F':=fresh w.heap.size wr.heap.size) (fun k hk=>hk.elim) (fun k h1 h2=>⟨by have:=Hz.out;omega,h2⟩) (by have:=rG.out;omega) (by omega);have hx3:=hxs.out;have how:=hO.out.low (b:=w.heap.size) (by have:=Hz.out;omega);obtain⟨HSL,cO,wJ,HOW⟩:=au hsl hbw hx3 how;clear hsl hbw hx3 how;go_wp2_with fail;go_ret;exact⟨_,rfl,cO.out,by have h:=HSL.out;rw[wJ.out]at h;exact h,by have h:=HOW.out;rw[wJ.out]at h;exact h⟩
theorem VY(m:Module)(l:List Import)(cs:List Value)(v:Value)(F G:aV)(w:World)(hF:∀k,F k→k<w.heap.size)(hG:∀k,G k→k<w.heap.size)
  (hm:aN w F cs m) (hl:SliceOf aU 4 72 w G v l) (ng:m.uses.length≤24):
  Calls prog 50 #[.agg cs.toArray,v] w fun e w'=>∃v':Value,e=.returned v'∧Below w.heap.size w w'∧SliceOf bn 2 24 w' (fresh w.heap.size w'.heap.size) v' (mQ m l)∧aZ bn 2 53 w.heap.size w' none_ v' (mQ m l):=by
 have hfr:=fun t U (hU:Below w.heap.size w U)=>Dc m l t cs v F G U (bg hF hU) (bg hG hU) (aN.stays.later hm hU hF) (hl.up aU.stays hG hU)
 obtain⟨U1,u1,T1,e1,T2,e2,rfl,hu,ht,hf⟩:=aN.form hm;obtain⟨L1,l1,rfl,_,_,hll,_⟩:=hl.form;obtain⟨_,_,_,_,_,hul,_⟩:=hu.form;obtain⟨HU,JJ,rG⟩:=ak hu hfr ng;clear hu hfr ng;clear ht hf hm hl;go_enter func50,ntmps50;go_wp2_with fail;have hBb:=Box.made w 27 #[.slice U1 m.uses.length u1,.slice T1 m.types.length e1,.slice T2 m.funcs.length e2];have hbb:Below w.heap.size w (w.alloc (.cells #[.slice U1 m.uses.length u1,.slice T1 m.types.length e1,.slice T2 m.funcs.length e2] 27)):=by go_grown
 have hzb:(w.alloc (.cells #[.slice U1 m.uses.length u1,.slice T1 m.types.length e1,.slice T2 m.funcs.length e2] 27)).heap.size=w.heap.size+1:=by simp
 generalize w.alloc (.cells #[.slice U1 m.uses.length u1,.slice T1 m.types.length e1,.slice T2 m.funcs.length e2] 27)=W1 at hBb hbb hzb⊢;obtain⟨HB,Hb,Hz⟩:=ak hBb hbb hzb;clear hBb hbb hzb;go_loopg [5,6,8] m.uses.length (fun gg s5 s6 _ wr=>∃(kk:Nat) (A:Option Addr) (n c:Nat) (xs:List og),kk≤m.uses.length∧m.uses.length-kk≤gg∧s6=.int .i64 kk∧s5=.slice A n c∧Aside (n=xs.length)∧Aside (xs=AX m l kk)∧
  Aside (aZ bn 2 53 W1.heap.size wr none_ (.slice A n c) xs)∧Aside (Below W1.heap.size W1 wr))
 case atStart=>exact⟨0,none,0,0,[],Nat.zero_le _,by omega,rfl,rfl,aside rfl,aside rfl,aside aZ.nil_,aside (Below.refl _ _)⟩
 case round=>
  obtain⟨kk,A,n,c,xs,hkk,hg,rfl,rfl,hn,hxs,hO,BW⟩:=hrel;have hB1:=HB.out.later BW.out HB.out.lt;have hbw:=Hb.out.trans (BW.out.mono Hb.out.size);have x0:=hB1.at_ 0 _ rfl;have x1:=hB1.at_ 1 _ rfl;have x2:=hB1.at_ 2 _ rfl
  by_cases hlt:kk<m.uses.length
  ·have hltz:(kk:Int)<(m.uses.length:Int):=by omega
   have hat:=HU.out.up aY.stays hF hbw;obtain⟨b1,off,cs,rfl,jc,hcs,⟨rfl,hos⟩,hcell⟩:=hat.at_ hlt;have hc0:=hcell 0 _ rfl;simp only[Nat.mul_one,Nat.add_zero]at hc0;have hx:=aK hlt;generalize m.uses[kk]=t at*;have hlen:xs.length≤kk:=by rw[hxs.out];exact um m l kk
   have hcl:=fun U (hU:Below wr.heap.size wr U)=>JJ.out t U (hbw.trans (hU.mono hbw.size))
   have hsucc:=AY m l kk;have hud:vP m l kk=if o9 (m.uses.take kk) t then[⟨t,4⟩]else if ku m l t then[]else[⟨t,3⟩]:=by unfold vP;rw[hx]
   obtain⟨z1,hz1⟩:∃z,ku m l t=z:=⟨_,rfl⟩;rw[hz1]at hcl hud;have hcw:=bg hF hbw _ jc;have hlo:=hB1.lt;obtain⟨HX,HAT,cO,HB1,HLEN,Gh,HS,HUD⟩:=aC hx hat hbw hB1 hlen hcl hsucc hud;clear hx hat hbw hB1 hlen hcl hsucc hud;clear hcell hcs hz1;go_wp2_with fail;go_cut [8] (fun s8 wc=>s8=.bool z1∧Aside (Below wr.heap.size wr wc))
   case first=>
    go_region_with (go_at_call 101;(first
     |((with_reducible refine(Gh.out (World.drew wr) (by go_grown)).mono ?_);rintro e W2 ⟨ds,rfl,hb2,hfr⟩;obtain⟨P1,p1,P2,p2,rfl⟩:=bD.form hfr;have hb2':=Below.trans (show Below wr.heap.size wr _ by go_grown) (hb2.mono (by simp));have HB2:=Lib.hid hb2';clear hb2 hb2' hfr)
     |(go_must((with_reducible refine(Gh.out (World.drew (World.alloc wr (.cells #[.slice none 0 0,.slice none 0 0] 42))) (by go_grown)).mono ?_);rintro e W2 ⟨ds,rfl,hb2,hfr⟩;obtain⟨P1,p1,P2,p2,rfl⟩:=bD.form hfr;have hb2':=Below.trans (show Below wr.heap.size wr _ by go_grown) (hb2.mono (by simp));have hbx:=(Box.made wr 42 #[.slice none 0 0,.slice none 0 0]).drew.later hb2 (by simp);have u0:=hbx.at_ 0 _ rfl;have u1:=hbx.at_ 1 _ rfl;have u2:=hbx.free 0;have u3:=hbx.free 1;have HB2:=Lib.hid hb2';clear hb2 hb2' hfr hbx))))
    all_goals (go_wp2_with fail;go_meet;refine⟨rfl,aside ?_⟩;(first|exact HB2.out.alloc HB2.out.size _|exact(HB2.out.setCell (aJ _) _).setCell (aJ _) _))
   case rest=>
   obtain⟨rfl,hb3⟩:=hcut;obtain⟨W3,rfl⟩:∃W,W=wc:=⟨_,rfl⟩;have hd0:=(hb3.out.cell (p:=⟨b1,off+kk,none⟩) hcw).trans hc0;have hB3:=HB1.out.later hb3.out HB1.out.lt;clear x0 x1 x2 hc0;have x0:=hB3.at_ 0 _ rfl;have hbw3:=BW.out.trans (hb3.out.mono BW.out.size);have hcon:=fun q=>Ad (.slice (some ⟨b1,off,none⟩) kk u1) (m.uses.take kk) F t (W3.drewN q) (((HAT.out.take (by omega)).up aY.stays (bg hF cO.out) hb3.out).stays aY.stays (fun _ h=>h) ((Keeps.refl _ _).drewN q))
   obtain⟨z2,hz2⟩:∃z,o9 (m.uses.take kk) t=z:=⟨_,rfl⟩;have hud:=HUD.out;rw[hz2]at hcon hud;have UE:=fun q=>(hcon q).mono fun e w' h=>(⟨h.1,h.2.symm⟩:e=.returned (.bool z2)∧w'=W3.drewN q)
   obtain⟨XE,XY,fV⟩:=ak UE hud hbw3;clear UE hud hbw3;clear hz2 hcon;go_upto_region 6 with fail
   go_cut [36] (fun s36 wc=>s36=.bool z2∧Aside (Below W3.heap.size W3 wc))
   case first=>
    go_wp2_with fail;go_quiet((go_at_call 42;exact Calls.quiet_of_same (XE.out _)));go_wp2_with fail;go_meet;exact⟨rfl,aside (below_drewN (Below.refl _ _) _)⟩
   case rest=>
   obtain⟨rfl,hb4⟩:=hcut;obtain⟨W4q,rfl⟩:∃W,W=wc:=⟨_,rfl⟩;have hd1:=(hb4.out.cell (p:=⟨b1,off+kk,none⟩) (Nat.lt_of_lt_of_le hcw hb3.out.size)).trans hd0;have hB4:=hB3.later hb4.out hB3.lt;clear x0 hd0;have x0:=hB4.at_ 0 _ rfl;have akp:=(hO.out.below bn.stays hb3.out).below bn.stays hb4.out;have agu:=fV.out.trans (hb4.out.mono fV.out.size);obtain⟨ahe,JH⟩:=aj akp agu;clear akp agu;clear hB3 hB4;cases z2 with
   |true=>
    go_wp2_with(at_builtin;go_must((refine bH bn.stays (.agg #[.string ⟨#[]⟩,.int .i64 0]) [.string t,.int .i64 4] ⟨t,4⟩ rfl rfl underlying43 (bytes:=24) (by kernel_rfl) ahe.out rfl rfl (by decide) rfl rfl (show bn W4q none_ _ _ from⟨rfl,hos,(show I64 4 from⟨by decide,by decide⟩)⟩) (lC (d:=⟨t,4⟩)) (fun k hk=>hk.elim) (by unfold maxLen;have:=HLEN.out;omega) (by have:=HLEN.out;have:=rG.out;omega) (by have:=JH.out.size;omega) ?_);(intro A4 c4 W5 hO4 hgr _;have hb4:=hgr.below (B:=W1.heap.size) (aJ _) JH.out.size;have zl:=Lib.hid hO4;have HB4:=Lib.hid hb4;clear hO4 hgr hb4)));go_roundg (m.uses.length-(kk+1))
    case measure=>omega
    case rel=>
     refine⟨kk+1,A4,xs.length+1,c4,xs++ [⟨t,4⟩],by omega,by omega,by go_num,rfl,aside (by simp),aside ?_,aside (aZ.wider bn.stays zl.out (fun k hk=>hk.elim id id) (fun k hk=>hk.elim)),aside (JH.out.trans HB4.out)⟩;rw[HS.out,XY.out,hxs.out];simp
   |false=>
    cases z1 with
    |false=>
     go_wp2_with(at_builtin;go_must((refine bH bn.stays (.agg #[.string ⟨#[]⟩,.int .i64 0]) [.string t,.int .i64 3] ⟨t,3⟩ rfl rfl underlying43 (bytes:=24) (by kernel_rfl) ahe.out rfl rfl (by decide) rfl rfl (show bn W4q none_ _ _ from⟨rfl,hos,(show I64 3 from⟨by decide,by decide⟩)⟩) (lC (d:=⟨t,3⟩)) (fun k hk=>hk.elim) (by unfold maxLen;have:=HLEN.out;omega) (by have:=HLEN.out;have:=rG.out;omega) (by have:=JH.out.size;omega) ?_);(intro A4 c4 W5 hO4 hgr _;have hb4:=hgr.below (B:=W1.heap.size) (aJ _) JH.out.size;have zl:=Lib.hid hO4;have HB4:=Lib.hid hb4;clear hO4 hgr hb4)));go_roundg (m.uses.length-(kk+1))
     case measure=>omega
     case rel=>
      refine⟨kk+1,A4,xs.length+1,c4,xs++ [⟨t,3⟩],by omega,by omega,by go_num,rfl,aside (by simp),aside ?_,aside (aZ.wider bn.stays zl.out (fun k hk=>hk.elim id id) (fun k hk=>hk.elim)),aside (JH.out.trans HB4.out)⟩;rw[HS.out,XY.out,hxs.out];simp
    |true=>
     go_wp2_with fail;go_roundg (m.uses.length-(kk+1))
     case measure=>omega
     case rel=>
      refine⟨kk+1,A,n,c,xs,by omega,by omega,by go_num,rfl,aside hn.out,aside ?_,aside ahe.out,aside JH.out⟩;rw[HS.out,XY.out,hxs.out];simp
  ·have hltz:¬(kk:Int)<(m.uses.length:Int):=by omega
   obtain rfl:kk=m.uses.length:=by omega
   have hlen:xs.length≤m.uses.length:=by rw[hxs.out];exact um m l _
   have hsl:=hO.out.slice bn.stays (jZ:=24) (F':=fresh w.heap.size wr.heap.size) (fun k hk=>hk.elim) (fun k h1 h2=>⟨by have:=Hz.out;omega,h2⟩) (by have:=rG.out;omega) (by omega);have hx3:=hxs.out;have how:=hO.out.low (b:=w.heap.size) (by have:=Hz.out;omega);obtain⟨HSL,cO,wJ,HOW⟩:=au hsl hbw hx3 how;clear hsl hbw hx3 how;go_wp2_with fail;go_ret;exact⟨_,rfl,cO.out,by have h:=HSL.out;rw[wJ.out]at h;exact h,by have h:=HOW.out;rw[wJ.out]at h;exact h⟩
end Go.Proofs.YtjaladhdnbhliaaGreatDoor
