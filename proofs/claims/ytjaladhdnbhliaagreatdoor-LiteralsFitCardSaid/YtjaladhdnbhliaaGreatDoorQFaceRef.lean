/- Parts. -/
import Derived.Test.YtjaladhdnbhliaaGreatDoorQWord
set_option maxHeartbeats 2000000
namespace Go.Proofs.YtjaladhdnbhliaaGreatDoor
open Go.Proofs.Tryz
open Go.RowKit Go.Shelf
structure CJ(w W:World)(n:Nat)(a0 a1 b0 b1:Value):Prop where
 below:Below n w W
 size:n+2≤W.heap.size
 n_eq:n=w.heap.size
 ca0:W.cell? ⟨n,0,none⟩=some a0
 ca1:W.cell? ⟨n,1,none⟩=some a1
 cb0:W.cell? ⟨n+1,0,none⟩=some b0
 cb1:W.cell? ⟨n+1,1,none⟩=some b1
theorem ac4 (w : World) (t : TypeId) (a0 a1 b0 b1 : Value) : CJ w ((w.alloc (.cells #[a0, a1] t)).alloc (.cells #[b0, b1] t)) w.heap.size a0 a1 b0 b1 :=
  ⟨((Below.refl _ _).alloc (aJ _) _).alloc (by simp) _, by simp, rfl,
    by rw [World.cell?_alloc_past _ _ _ (by simp), World.cell?_alloc_at _ _ _ _ rfl]; rfl,
    by rw [World.cell?_alloc_past _ _ _ (by simp), World.cell?_alloc_at _ _ _ _ rfl]; rfl,
    by rw [World.cell?_alloc_at _ _ _ _ (by simp)]; rfl,
    by rw [World.cell?_alloc_at _ _ _ _ (by simp)]; rfl⟩
theorem CJ.later{w W W':World}{n:Nat}{a0 a1 b0 b1:Value}(h:CJ w W n a0 a1 b0 b1)(hb:Below (n+2) W W'):CJ w W' n a0 a1 b0 b1:=
 ⟨h.below.trans (hb.mono (by omega)),Nat.le_trans h.size hb.size,h.n_eq,(hb.cell (by simp)).trans h.ca0,(hb.cell (by simp)).trans h.ca1,(hb.cell (by simp)).trans h.cb0,(hb.cell (by simp)).trans h.cb1⟩
structure JF(w W:World)(n:Nat)(p q:Value):Prop where
 below:Below n w W
 size:n+2≤W.heap.size
 n_eq:n=w.heap.size
 cp:W.cell? ⟨n,1,none⟩=some p
 cq:W.cell? ⟨n+1,1,none⟩=some q
theorem ahF (w : World) (t : TypeId) (a0 p a2 b0 q b2 : Value) : JF w ((w.alloc (.cells #[a0, p, a2] t)).alloc (.cells #[b0, q, b2] t)) w.heap.size p q :=
  ⟨((Below.refl _ _).alloc (aJ _) _).alloc (by simp) _, by simp, rfl,
    by rw [World.cell?_alloc_past _ _ _ (by simp), World.cell?_alloc_at _ _ _ _ rfl]; rfl,
    by rw [World.cell?_alloc_at _ _ _ _ (by simp)]; rfl⟩
theorem JF.later{w W W':World}{n:Nat}{p q:Value}(h:JF w W n p q)(hb:Below (n+2) W W'):JF w W' n p q:=
 ⟨h.below.trans (hb.mono (by omega)),Nat.le_trans h.size hb.size,h.n_eq,(hb.cell (by simp)).trans h.cp,(hb.cell (by simp)).trans h.cq⟩
set_option maxRecDepth 100000 in
theorem RZ(a b:gU)(cs ds:List Value)(F G:aV)(w:World)(hF:∀k,F k→k<w.heap.size)(hG:∀k,G k→k<w.heap.size)(ha:bD w F cs a)(hb:bD w G ds b):
  Calls prog 18 #[.agg cs.toArray,.agg ds.toArray] w fun e w'=>e=.returned (.bool (rP a b))∧Below w.heap.size w w':=by
 obtain⟨tv,fv,rfl,ht,hf⟩:=ha;obtain⟨tu,fu,rfl,ht',hf'⟩:=hb;obtain⟨A1,c1,rfl,_,_,hl1,_⟩:=ht.form;obtain⟨A2,c2,rfl,_,_,hl2,_⟩:=ht'.form;obtain⟨A3,c3,rfl,_,_,hl3,_⟩:=hf.form;obtain⟨A4,c4,rfl,_,_,hl4,_⟩:=hf'.form
 by_cases hlen:a.types.length=b.types.length
 ·by_cases hlen2:a.funcs.length=b.funcs.length
  ·have hz:((a.types.length:Int)!=(b.types.length:Int))=false:=by simp[hlen]
   have hz2:((a.funcs.length:Int)!=(b.funcs.length:Int))=false:=by simp[hlen2]
   have HL:=ah hlen;have HL2:=ah hlen2;clear hlen hlen2;go_enter func18,ntmps18;go_wp2;have hB:=ac4 w 42 (.slice A1 a.types.length c1) (.slice A3 a.funcs.length c3) (.slice A2 b.types.length c2) (.slice A4 b.funcs.length c4);generalize hW2:(w.alloc (.cells #[.slice A1 a.types.length c1,.slice A3 a.funcs.length c3] 42)).alloc (.cells #[.slice A2 b.types.length c2,.slice A4 b.funcs.length c4] 42)=W2 at hB;have HB:Hid (CJ w W2 w.heap.size (.slice A1 a.types.length c1) (.slice A3 a.funcs.length c3) (.slice A2 b.types.length c2) (.slice A4 b.funcs.length c4)):=hB;clear hB hW2;go_loopg [5] a.types.length (fun gg s5 wr=>∃kk:Nat,kk≤a.types.length∧a.types.length-kk≤gg∧s5=.int .i64 kk∧Aside (CJ w wr w.heap.size (.slice A1 a.types.length c1) (.slice A3 a.funcs.length c3) (.slice A2 b.types.length c2) (.slice A4 b.funcs.length c4))∧Aside (∀j,j<kk→∀x y,a.types[j]? =some x→b.types[j]? =some y→yw x y=true))
   case atStart=>exact⟨0,Nat.zero_le _,by omega,rfl,HB.out,(show Aside _ from fun j hj=>absurd hj (Nat.not_lt_zero _))⟩
   case round=>
    obtain⟨kk,hkk,hg,rfl,BW,Al⟩:=hrel;have ha0:=BW.out.ca0;have ha1:=BW.out.ca1;have hb0:=BW.out.cb0;have hb1:=BW.out.cb1
    by_cases hlt:kk<a.types.length
    ·have hltz:(kk:Int)<(a.types.length:Int):=by omega
     have hlt':kk<b.types.length:=by have:=HL.out;omega
     have ZR:(kk:Int)<(b.types.length:Int):=by omega
     obtain⟨b1,off,cs,rfl,hb,hcs,⟨rfl,_⟩,hcell⟩:=(ht.stays aW.stays (fun _ h=>h) (Keeps.of_below BW.out.below hF)).at_ hlt;obtain⟨b2,off',cs',rfl,hb',hcs',⟨rfl,_⟩,hcell'⟩:=(ht'.stays aW.stays (fun _ h=>h) (Keeps.of_below BW.out.below hG)).at_ hlt';have hc0:=hcell 0 _ rfl;have hd0:=hcell' 0 _ rfl;have hc1:=hcell 1 _ rfl;have hd1:=hcell' 1 _ rfl;simp only[Nat.add_zero]at hc0 hd0;have hx:=aK hlt;have hy:=aK hlt';generalize a.types[kk]=x at*;generalize b.types[kk]=y at*;obtain⟨HX,HY⟩:=aj hx hy;clear hx hy hcell hcell' ht ht' hf hf';cases hq:yw x y with
     |true=>
      have HQ:=ah hq;have hE:=PX x y;rw[hq]at hE;clear hq;go_wp2;go_quiet(fail);go_wp2;go_roundg (a.types.length-(kk+1))
      case measure=>omega
      case rel=>exact⟨kk+1,by omega,by omega,by go_num,BW.out.later (below_drewN (Below.refl _ _) _),(show Aside _ from qx HX.out HY.out HQ.out Al.out)⟩
     |false=>
      have HQ:=ah hq;have hE:=PX x y;rw[hq]at hE;clear hq;go_wp2;go_quiet(fail);go_wp2;go_ret;exact⟨dw (by unfold rP;rw[jw HX.out HY.out HQ.out];rfl),below_drewN BW.out.below _⟩
    ·have hltz:¬(kk:Int)<(a.types.length:Int):=by omega
     obtain rfl:kk=a.types.length:=by omega
     have HT:=Lib.hid (tV HL.out Al.out);have BE:=BW.out;clear hlt Al;go_wp2;have HB2:=ah BE;clear BE ha0 ha1 hb0 hb1;go_loopg [6] a.funcs.length (fun gg s6 wr2=>∃kk:Nat,kk≤a.funcs.length∧a.funcs.length-kk≤gg∧s6=.int .i64 kk∧Aside (CJ w wr2 w.heap.size (.slice A1 a.types.length c1) (.slice A3 a.funcs.length c3) (.slice A2 b.types.length c2) (.slice A4 b.funcs.length c4))∧Aside (∀j,j<kk→∀x y,a.funcs[j]? =some x→b.funcs[j]? =some y→y7 x y=true))
     case atStart=>exact⟨0,Nat.zero_le _,by omega,rfl,HB2.out,(show Aside _ from fun j hj=>absurd hj (Nat.not_lt_zero _))⟩
     case round=>
      obtain⟨kk,hkk,hg,rfl,BV,Al⟩:=hrel;have ha0:=BV.out.ca0;have ha1:=BV.out.ca1;have hb0:=BV.out.cb0;have hb1:=BV.out.cb1
      by_cases hlt:kk<a.funcs.length
      ·have hltz:(kk:Int)<(a.funcs.length:Int):=by omega
       have hlt':kk<b.funcs.length:=by have:=HL2.out;omega
       have ZR:(kk:Int)<(b.funcs.length:Int):=by omega
       obtain⟨b1,off,cs,rfl,hb,hcs,hr,hcell⟩:=(hf.stays fB.stays (fun _ h=>h) (Keeps.of_below BV.out.below hF)).at_ hlt;obtain⟨b2,off',cs',rfl,hb',hcs',hr',hcell'⟩:=(hf'.stays fB.stays (fun _ h=>h) (Keeps.of_below BV.out.below hG)).at_ hlt';obtain⟨pv,rfl,_,_,hpv⟩:=hr;obtain⟨qv,rfl,_,_,hqv⟩:=hr';obtain⟨P1,e1,rfl,_,_,_,_⟩:=hpv.form;obtain⟨Q1,e2,rfl,_,_,_,_⟩:=hqv.form;have hc0:=hcell 0 _ rfl;have hd0:=hcell' 0 _ rfl;have hc1:=hcell 1 _ rfl;have hd1:=hcell' 1 _ rfl;have hc2:=hcell 2 _ rfl;have hd2:=hcell' 2 _ rfl;simp only[Nat.add_zero]at hc0 hd0;have hx:=aK hlt;have hy:=aK hlt';generalize a.funcs[kk]=x at*;generalize b.funcs[kk]=y at*;have hsz:w.heap.size+2≤wr.heap.size:=BV.out.size;have hsz0:w.heap.size<wr.heap.size:=by omega
       have hsz1:w.heap.size+1<wr.heap.size:=by omega
       have hbl:b1<wr.heap.size:=by have:=hF b1 hb;omega
       have an0:b2<wr.heap.size:=by have:=hG b2 hb';omega
       obtain⟨HX,HY⟩:=aj hx hy;obtain⟨HPV,HQV⟩:=aj hpv hqv;clear hx hy hcell hcell' hpv hqv ht ht' hf hf';cases h1:iT x.name y.name with
       |false=>
        have hE:¬x.name.toList=y.name.toList:=by unfold iT at h1;simpa using h1
        have HQ:=Lib.hid (show y7 x y=false by unfold y7;rw[h1];rfl);clear h1;go_wp2;go_ret;exact⟨dw (by unfold rP;rw[jw HX.out HY.out HQ.out,Bool.and_false]),(BV.out.below.alloc (by omega) _).alloc (by simp;omega) _⟩
       |true=>
        have hE:x.name.toList=y.name.toList:=by unfold iT at h1;simpa using h1
        cases h2:iT x.result y.result with
        |false=>
         have hE2:¬x.result.toList=y.result.toList:=by unfold iT at h2;simpa using h2
         have HQ:=Lib.hid (show y7 x y=false by unfold y7;rw[h1,h2];rfl);clear h1 h2;go_wp2;go_ret;exact⟨dw (by unfold rP;rw[jw HX.out HY.out HQ.out,Bool.and_false]),(BV.out.below.alloc (by omega) _).alloc (by simp;omega) _⟩
        |true=>
         have hE2:x.result.toList=y.result.toList:=by unfold iT at h2;simpa using h2
         by_cases h3:x.params.length=y.params.length
         ·have hE3:((x.params.length:Int)!=(y.params.length:Int))=false:=by simp[h3]
          have H3:=ah h3;have hl5:x.params.length≤140737488355328:=by assumption
          have HS:=Lib.hid (show y7 x y=listEq iT x.params y.params by unfold y7;rw[h1,h2];rfl);clear h1 h2 h3;go_wp2;have hN:=ahF wr 62 (.string x.name) (.slice P1 x.params.length e1) (.string x.result) (.string y.name) (.slice Q1 y.params.length e2) (.string y.result);generalize hW3:(wr.alloc (.cells #[.string x.name,.slice P1 x.params.length e1,.string x.result] 62)).alloc (.cells #[.string y.name,.slice Q1 y.params.length e2,.string y.result] 62)=W3 at hN;have HN:=ah hN;have HB3:=Lib.hid (BV.out.later (hN.below.mono (by omega)));clear hN hW3;have hFV:∀k,F k→k<wr.heap.size:=Au hF BV.out.below;have hGV:∀k,G k→k<wr.heap.size:=Au hG BV.out.below;obtain⟨V,hV⟩:∃V,V=wr:=⟨_,rfl⟩;subst hV;clear hc0 hc1 hc2 hd0 hd1 hd2 ha0 ha1 hb0 hb1 hb hb' hsz0 hsz1 hbl an0 hcs hcs';go_loopg [9] x.params.length (fun gg s9 wr3=>∃jj:Nat,jj≤x.params.length∧x.params.length-jj≤gg∧s9=.int .i64 jj∧Aside (JF V wr3 V.heap.size (.slice P1 x.params.length e1) (.slice Q1 y.params.length e2))∧Aside (∀j,j<jj→∀u v,x.params[j]? =some u→y.params[j]? =some v→iT u v=true))
          case atStart=>exact⟨0,Nat.zero_le _,by omega,rfl,HN.out,(show Aside _ from fun j hj=>absurd hj (Nat.not_lt_zero _))⟩
          case round=>
           obtain⟨jj,hjj,hg2,rfl,BU,Al2⟩:=hrel;have hp0:=BU.out.cp;have hq0:=BU.out.cq
           by_cases hlj:jj<x.params.length
           ·have ah5:(jj:Int)<(x.params.length:Int):=by omega
            have akV:jj<y.params.length:=by have:=H3.out;omega
            have apl:(jj:Int)<(y.params.length:Int):=by omega
            obtain⟨p1,of,cs,rfl,hb,hcs,⟨rfl,_⟩,hcell⟩:=(HPV.out.stays aY.stays (fun _ h=>h) (Keeps.of_below BU.out.below hFV)).at_ hlj;obtain⟨p2,of',cs',rfl,hb',hcs',⟨rfl,_⟩,hcell'⟩:=(HQV.out.stays aY.stays (fun _ h=>h) (Keeps.of_below BU.out.below hGV)).at_ akV;have hc0:=hcell 0 _ rfl;have hd0:=hcell' 0 _ rfl;simp only[Nat.add_zero,Nat.mul_one]at hc0 hd0;have hu:=aK hlj;have hv:=aK akV;generalize x.params[jj]=u at*;generalize y.params[jj]=v at*;obtain⟨HU,HV⟩:=aj hu hv;clear hu hv hcell hcell';cases hq:iT u v with
            |true=>
             have HQ:=ah hq;have hE4:(!(u.toList==v.toList))=false:=by unfold iT at hq;rw[hq];rfl
             clear hq;go_wp2;go_quiet(fail);go_wp2;go_roundg (x.params.length-(jj+1))
             case measure=>omega
             case rel=>exact⟨jj+1,by omega,by omega,by go_num,BU.out.later (below_drewN (Below.refl _ _) _),(show Aside _ from qx HU.out HV.out HQ.out Al2.out)⟩
            |false=>
             have HQ:=ah hq;have hE4:(!(u.toList==v.toList))=true:=by unfold iT at hq;rw[hq];rfl
             clear hq;go_wp2;go_quiet(fail);go_wp2;go_ret;exact⟨dw (by unfold rP;rw[jw HX.out HY.out (HS.out.trans (jw HU.out HV.out HQ.out)),Bool.and_false]),below_drewN (BV.out.below.trans (BU.out.below.mono (by omega))) _⟩
           ·have ah5:¬(jj:Int)<(x.params.length:Int):=by omega
            obtain rfl:jj=x.params.length:=by omega
            have HQ:=Lib.hid (HS.out.trans (tV H3.out Al2.out));go_wp2;go_roundg (a.funcs.length-(kk+1))
            case measure=>omega
            case rel=>exact⟨kk+1,by omega,by omega,by go_num,BV.out.later (BU.out.below.mono (by omega)),(show Aside _ from qx HX.out HY.out HQ.out Al.out)⟩
         ·have hE3:((x.params.length:Int)!=(y.params.length:Int))=true:=by simp;omega
          have HQ:=Lib.hid (show y7 x y=false by unfold y7;rw[h1,h2,oG h3];rfl);clear h1 h2 h3;go_wp2;go_ret;exact⟨dw (by unfold rP;rw[jw HX.out HY.out HQ.out,Bool.and_false]),(BV.out.below.alloc (by omega) _).alloc (by simp;omega) _⟩
      ·have hltz:¬(kk:Int)<(a.funcs.length:Int):=by omega
       obtain rfl:kk=a.funcs.length:=by omega
       have HT2:=Lib.hid (tV HL2.out Al.out);go_wp2;go_ret;exact⟨dw (by unfold rP;rw[HT.out,HT2.out];rfl),BV.out.below⟩
  ·have hz:((a.types.length:Int)!=(b.types.length:Int))=false:=by simp[hlen]
   have hz2:((a.funcs.length:Int)!=(b.funcs.length:Int))=true:=by simp;omega
   have HL2:=ah hlen2;clear hlen hlen2;go_enter func18,ntmps18;go_wp2;go_ret;exact⟨dw (by unfold rP;rw[oG HL2.out,Bool.and_false]),((Below.refl _ _).alloc (aJ _) _).alloc (by simp) _⟩
 ·have hz:((a.types.length:Int)!=(b.types.length:Int))=true:=by simp;omega
  have HL:=ah hlen;clear hlen;go_enter func18,ntmps18;go_wp2;go_ret;exact⟨dw (by unfold rP;rw[oG HL.out];rfl),((Below.refl _ _).alloc (aJ _) _).alloc (by simp) _⟩
end Go.Proofs.YtjaladhdnbhliaaGreatDoor
