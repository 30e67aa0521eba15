/- Parts. -/
import Derived.Test.YtjaladhdnbhliaaGreatDoorQFaceCopy
import Derived.Test.YtjaladhdnbhliaaGreatDoorQTreeErr3
set_option maxHeartbeats 2000000
set_option maxRecDepth 100000
namespace Go.Proofs.YtjaladhdnbhliaaGreatDoor
open Go.Proofs.Tryz
open Go.RowKit Go.Shelf
theorem iD.form{w:World}{F:aV}{cs:List Value}{t:Ty}(h:iD w F cs t):∃A c,cs= [.int .i64 t.kind,.string t.bT,.string t.name,.slice A t.args.length c]:=by
 obtain⟨n,h⟩:=h;cases n with
 |zero=>exact h.elim
 |succ n=>
  obtain⟨av,rfl,_,_,_,hav⟩:=h;obtain⟨A,c,rfl,_⟩:=hav.form;exact⟨A,c,rfl⟩
theorem VT{f:Nat}{k:Int}{o nm:ByteArray}{args:List Ty}(h:k<1∨4<k):dn (f+1) (.mk k o nm args)=3:=by unfold dn;rw[if_pos h]
theorem Zl{f:Nat}{o nm:ByteArray}{a:Ty}(h:nm.size=0∧o.size=0):dn (f+1) (.mk 3 o nm [a])=dn f a:=by
 conv=>lhs;unfold dn
 rw[if_neg (by decide),if_pos rfl];simp only;rw[if_pos h]
theorem Ot{f:Nat}{o nm:ByteArray}{a:Ty}(h:¬(nm.size=0∧o.size=0)):dn (f+1) (.mk 3 o nm [a])=4:=by
 unfold dn;rw[if_neg (by decide),if_pos rfl];simp only;rw[if_neg h]
theorem y9{f:Nat}{o nm:ByteArray}{args:List Ty}(h:args.length≠1):dn (f+1) (.mk 3 o nm args)=4:=by
 unfold dn;rw[if_neg (by decide),if_pos rfl]
 match args,h with
 |[],_=>rfl
 |[_],h=>exact absurd rfl h
 |_::_::_,_=>rfl
theorem Nl{f:Nat}{k:Int}{o nm:ByteArray}{args:List Ty}(h:¬(k<1∨4<k))(h3:k≠3)(ha:args.length≠0):dn (f+1) (.mk k o nm args)=4:=by unfold dn;rw[if_neg h,if_neg h3,if_pos ha]
theorem VQ{f:Nat}{o nm:ByteArray}:dn (f+1) (.mk 4 o nm [])=if aX nm=true∧(o.size=0∨aX o=true)then 0 else 4:=by
 unfold dn;rw[if_neg (by decide),if_neg (by decide),if_neg (by simp),if_pos rfl]
theorem VR{f:Nat}{k:Int}{o nm:ByteArray}(h:k=1∨k=2):dn (f+1) (.mk k o nm [])=if nm.size=0∧o.size=0 then 0 else 4:=by
 unfold dn;rw[if_neg (by omega),if_neg (by omega),if_neg (by simp),if_neg (by omega)]
theorem Ls:∀(f:Nat) (t:Ty) (d:Int) (cs:List Value) (F:aV) (w:World),d+f=11→f≤10→iD w F cs t→(∀k,F k→k<w.heap.size)→
  Calls prog 72 #[.agg cs.toArray,.int .i64 d] w fun e w'=>e=wX (dn f t)∧Below w.heap.size w w':=by
 intro f
 induction f with
 |zero=>
  intro t d cs F w hd _ ht hF;obtain⟨n,ht⟩:=ht;cases n with
  |zero=>exact ht.elim
  |succ n=>
   obtain⟨av,rfl,_,_,_,hav⟩:=ht;obtain⟨A,cap,rfl,_⟩:=hav.form;have hdz:¬d≤10:=by omega
   clear hav hd;go_enter func72,ntmps72;go_wp2_with fail;refine(bQ _ _).mono ?_;rintro e w' ⟨rfl,rfl⟩;go_wp2_with fail;exact⟨rfl,rfl,by go_grown⟩
 |succ f ih=>
  intro t d cs F w hd hf ht hF;obtain⟨n,ht⟩:=ht;cases n with
  |zero=>exact ht.elim
  |succ n=>
   obtain⟨av,rfl,_,ho,hnm,hav⟩:=ht;obtain⟨k,o,nm,args⟩:=t;dsimp only[Ty.kind,Ty.bT,Ty.name,Ty.args]at*;obtain⟨A,cap,rfl,_,_,hlen,_⟩:=hav.form;have hdz:d≤10:=by omega
   have hdl:1≤d:=by omega
   obtain⟨E,hE⟩:∃E,dn (f+1) (.mk k o nm args)=E:=⟨_,rfl⟩;rw[hE];have hni:=fun W=>iV nm W hnm
   have hoi:=fun W=>iV o W ho
   obtain⟨z1,hz1⟩:∃z,aX nm=z:=⟨_,rfl⟩;obtain⟨z2,hz2⟩:∃z,aX o=z:=⟨_,rfl⟩;rw[hz1]at hni;rw[hz2]at hoi;have hes:=bC nm;have heo:=bC o;obtain⟨HNI,HOI,Z1,Z2,HAV,HE,IH,HES,HEO,HD⟩:=aG hni hoi hz1 hz2 hav hE ih hes heo hd;clear hni hoi hz1 hz2 hav hE ih hes heo hd
   by_cases hr:k<1∨4<k
   ·have hE0:E=3:=by rw[←HE.out,VT hr]
    subst hE0
    by_cases h1:1≤k
    ·have h2:decide (k≤4)=false:=decide_eq_false (by omega);clear hr;go_enter func72,ntmps72;go_wp2_with(first|(go_at_call 71;(with_reducible refine(bF _ _).mono ?_);rintro e w' ⟨rfl,rfl⟩)|(go_at_call 71;(with_reducible refine(bQ _ _).mono ?_);rintro e w' ⟨rfl,rfl⟩));exact⟨rfl,rfl,by go_grown⟩
    ·clear hr;go_enter func72,ntmps72;go_wp2_with(first|(go_at_call 71;(with_reducible refine(bF _ _).mono ?_);rintro e w' ⟨rfl,rfl⟩)|(go_at_call 71;(with_reducible refine(bQ _ _).mono ?_);rintro e w' ⟨rfl,rfl⟩));exact⟨rfl,rfl,by go_grown⟩
   ·have hk:k=1∨k=2∨k=3∨k=4:=by omega
    by_cases h3:k=3
    ·subst h3;clear hk hr
     match args,HE,HAV,hlen with
     |[a],HE,HAV,hlen=>
      cases hq1:nm.toList.isEmpty<;>cases hq2:o.toList.isEmpty
      case true.true=>
       have hs:nm.size=0∧o.size=0:=⟨uh hq1,uh hq2⟩;have hE0:=HE.out;rw[Zl hs]at hE0;obtain⟨b,off,cs,rfl,hb,hcs,hra,hcell⟩:=HAV.out.at_ (k:=0) (by simp);obtain⟨A2,n2,rfl⟩:=iD.form (⟨n,hra⟩:iD w F _ a);have hc0:=hcell 0 _ rfl;have hc1:=hcell 1 _ rfl;have hc2:=hcell 2 _ rfl;have hc3:=hcell 3 _ rfl;simp only[Nat.zero_mul,Nat.add_zero]at hc0 hc1 hc2 hc3;have hca:=fun U (hU:Below w.heap.size w U)=>IH.out a (d+1) [.int .i64 a.kind,.string a.bT,.string a.name,.slice A2 a.args.length n2] F U (by have:=HD.out;omega) (by omega) (iD.stays.later ⟨n,hra⟩ hU hF) (bg hF hU)
       rw[hE0]at hca;have hlt:=hF _ hb;have Zp:=ah hca;clear hca;clear hE0 hcell hcs hra hs;go_enter func72,ntmps72;go_wp2_with(first|(go_at_call 71;(with_reducible refine(bF _ _).mono ?_);rintro e w' ⟨rfl,rfl⟩)|(go_at_call 71;(with_reducible refine(bQ _ _).mono ?_);rintro e w' ⟨rfl,rfl⟩));refine wp_loop_rounds 2 ?_;rw[rounds_succ];go_wp2_with fail;refine(Zp.out _ (by go_grown)).mono ?_;rintro e W2 ⟨rfl,hb2⟩
       by_cases hE0:E=0
       ·subst hE0;rw[lZ];go_wp2_with fail;rw[rounds_succ];go_wp2_with fail
        go_end0
        exact⟨rfl,Below.trans (by go_grown) (hb2.mono (by simp<;>omega))⟩
       ·rw[iK hE0];go_wp2_with fail;exact⟨rfl,(iK hE0).symm,Below.trans (by go_grown) (hb2.mono (by simp<;>omega))⟩
      all_goals
       have hs:¬(nm.size=0∧o.size=0):=fun h=>by
        have e1:=HES.out;have e2:=HEO.out;rw[h.1,hq1]at e1;rw[h.2,hq2]at e2;first|(cases e1;done)|(cases e2;done)
       have hE0:E=4:=by rw[←HE.out,Ot hs]
       subst hE0;clear hs;go_enter func72,ntmps72;go_wp2_with(first|(go_at_call 71;(with_reducible refine(bF _ _).mono ?_);rintro e w' ⟨rfl,rfl⟩)|(go_at_call 71;(with_reducible refine(bQ _ _).mono ?_);rintro e w' ⟨rfl,rfl⟩));exact⟨rfl,rfl,by go_grown⟩
     |[],HE,HAV,hlen=>
      have hE0:E=4:=by rw[←HE.out,y9 (by simp)]
      subst hE0;go_enter func72,ntmps72;go_wp2_with(first|(go_at_call 71;(with_reducible refine(bF _ _).mono ?_);rintro e w' ⟨rfl,rfl⟩)|(go_at_call 71;(with_reducible refine(bQ _ _).mono ?_);rintro e w' ⟨rfl,rfl⟩));exact⟨rfl,rfl,by go_grown⟩
     |a::b::r,HE,HAV,hlen=>
      have hE0:E=4:=by rw[←HE.out,y9 (by simp)]
      subst hE0;have hn1:(((a::b::r).length:Int)==1)=false:=by simp;omega
      generalize(a::b::r).length=L at*;go_enter func72,ntmps72;go_wp2_with(first|(go_at_call 71;(with_reducible refine(bF _ _).mono ?_);rintro e w' ⟨rfl,rfl⟩)|(go_at_call 71;(with_reducible refine(bQ _ _).mono ?_);rintro e w' ⟨rfl,rfl⟩));exact⟨rfl,rfl,by go_grown⟩
    ·have hk3:((k:Int)==3)=false:=by simp[h3]
     match args,HE,HAV,hlen with
     |[],HE,HAV,hlen=>
      by_cases h4:k=4
      ·subst h4;clear hk hr h3 hk3;have hE0:=HE.out;rw[VQ,Z1.out,Z2.out]at hE0;have Xr:=ah hE0;clear hE0;go_enter func72,ntmps72;go_wp2_with(first|(go_at_call 71;(with_reducible refine(bF _ _).mono ?_);rintro e w' ⟨rfl,rfl⟩)|(go_at_call 71;(with_reducible refine(bQ _ _).mono ?_);rintro e w' ⟨rfl,rfl⟩));have hBb:=Box.made w 75 #[.int .i64 4,.string o,.string nm,.slice A 0 cap];have hbb:Below w.heap.size w (w.alloc (.cells #[.int .i64 4,.string o,.string nm,.slice A 0 cap] 75)):=by go_grown
       have hzb:(w.alloc (.cells #[.int .i64 4,.string o,.string nm,.slice A 0 cap] 75)).heap.size=w.heap.size+1:=by simp
       generalize w.alloc (.cells #[.int .i64 4,.string o,.string nm,.slice A 0 cap] 75)=W1 at hBb hbb hzb⊢;refine(HNI.out _).mono ?_;rintro e W2 ⟨rfl,hb2⟩;have hB2:=hBb.later hb2 hBb.lt;have x1:=hB2.at_ 1 _ rfl;have x2:=hB2.at_ 2 _ rfl;have x3:=hB2.at_ 3 _ rfl;have hbw:=hbb.trans (hb2.mono hbb.size);obtain⟨HB2,cO⟩:=aj hB2 hbw;clear hB2 hbw;clear hBb hbb hb2 hzb;cases z1 with
       |false=>
        go_wp2_with(first|(go_at_call 71;(with_reducible refine(bF _ _).mono ?_);rintro e w' ⟨rfl,rfl⟩)|(go_at_call 71;(with_reducible refine(bQ _ _).mono ?_);rintro e w' ⟨rfl,rfl⟩));exact⟨rfl,by rw[←Xr.out];rfl,cO.out⟩
       |true=>
        cases hq:o.toList.isEmpty with
        |true=>
         go_wp2_with(first|(go_at_call 71;(with_reducible refine(bF _ _).mono ?_);rintro e w' ⟨rfl,rfl⟩)|(go_at_call 71;(with_reducible refine(bQ _ _).mono ?_);rintro e w' ⟨rfl,rfl⟩));refine wp_loop_rounds 1 ?_;rw[rounds_succ];go_wp2_with fail
         go_end0
         exact⟨by rw[←Xr.out,if_pos ⟨trivial,.inl (uh hq)⟩];rfl,cO.out⟩
        |false=>
         go_wp2_with(first|(go_at_call 71;(with_reducible refine(bF _ _).mono ?_);rintro e w' ⟨rfl,rfl⟩)|(go_at_call 71;(with_reducible refine(bQ _ _).mono ?_);rintro e w' ⟨rfl,rfl⟩));refine(HOI.out _).mono ?_;rintro e W3 ⟨rfl,hb3⟩;have hB3:=HB2.out.later hb3 HB2.out.lt;clear x1 x2 x3;have y3:=hB3.at_ 3 _ rfl;have hbw:=cO.out.trans (hb3.mono cO.out.size);have fV:=ah hbw;clear hbw;clear hb3 hB3;cases z2 with
         |false=>
          go_wp2_with(first|(go_at_call 71;(with_reducible refine(bF _ _).mono ?_);rintro e w' ⟨rfl,rfl⟩)|(go_at_call 71;(with_reducible refine(bQ _ _).mono ?_);rintro e w' ⟨rfl,rfl⟩));exact⟨rfl,by rw[←Xr.out,if_neg (fun h=>h.2.elim (size_pos hq) (by simp))];rfl,fV.out⟩
         |true=>
          go_wp2_with(first|(go_at_call 71;(with_reducible refine(bF _ _).mono ?_);rintro e w' ⟨rfl,rfl⟩)|(go_at_call 71;(with_reducible refine(bQ _ _).mono ?_);rintro e w' ⟨rfl,rfl⟩));refine wp_loop_rounds 1 ?_;rw[rounds_succ];go_wp2_with fail
          go_end0
          exact⟨by rw[←Xr.out,if_pos ⟨trivial,.inr trivial⟩];rfl,fV.out⟩
      ·have hk12:k=1∨k=2:=by omega
       have hE0:=HE.out;rw[VR hk12]at hE0;have Xr:=ah hE0;clear hE0;clear hk hr h3 hk3 h4;rcases hk12 with rfl|rfl<;>cases hq1:nm.toList.isEmpty<;>cases hq2:o.toList.isEmpty
       case inl.true.true|inr.true.true=>
        have hz:E=0:=by rw[←Xr.out,if_pos ⟨uh hq1,uh hq2⟩]
        subst hz;go_enter func72,ntmps72;go_wp2_with(first|(go_at_call 71;(with_reducible refine(bF _ _).mono ?_);rintro e w' ⟨rfl,rfl⟩)|(go_at_call 71;(with_reducible refine(bQ _ _).mono ?_);rintro e w' ⟨rfl,rfl⟩));refine wp_loop_rounds 1 ?_;rw[rounds_succ];go_wp2_with fail
        go_end0
        exact⟨rfl,by go_grown⟩
       all_goals
        have hz:E=4:=by
         rw[←Xr.out,if_neg];intro h;have e1:=HES.out;have e2:=HEO.out;rw[h.1,hq1]at e1;rw[h.2,hq2]at e2;first|(cases e1;done)|(cases e2;done)
        subst hz;go_enter func72,ntmps72;go_wp2_with(first|(go_at_call 71;(with_reducible refine(bF _ _).mono ?_);rintro e w' ⟨rfl,rfl⟩)|(go_at_call 71;(with_reducible refine(bQ _ _).mono ?_);rintro e w' ⟨rfl,rfl⟩));exact⟨rfl,rfl,by go_grown⟩
     |[a],HE,HAV,hlen=>
      have hE0:E=4:=by rw[←HE.out,Nl hr h3 (by simp)]
      subst hE0;clear hr h3;have h1:1≤k:=by omega
      have h2:k≤4:=by omega
      clear hk;go_enter func72,ntmps72;go_wp2_with(first|(go_at_call 71;(with_reducible refine(bF _ _).mono ?_);rintro e w' ⟨rfl,rfl⟩)|(go_at_call 71;(with_reducible refine(bQ _ _).mono ?_);rintro e w' ⟨rfl,rfl⟩));exact⟨rfl,rfl,by go_grown⟩
     |a::b::r,HE,HAV,hlen=>
      have hE0:E=4:=by rw[←HE.out,Nl hr h3 (by simp)]
      subst hE0;have hn1:(((a::b::r).length:Int)==1)=false:=by simp;omega
      have hn2:¬(((a::b::r).length:Int)<2):=by simp;omega
      have h1:1≤k:=by omega
      have h2:k≤4:=by omega
      clear hr h3 hk;generalize(a::b::r).length=L at*;go_enter func72,ntmps72;go_wp2_with(first|(go_at_call 71;(with_reducible refine(bF _ _).mono ?_);rintro e w' ⟨rfl,rfl⟩)|(go_at_call 71;(with_reducible refine(bQ _ _).mono ?_);rintro e w' ⟨rfl,rfl⟩));exact⟨rfl,rfl,by go_grown⟩
def wY(t:ByteArray)(x:Import):Bool:=iT x.name t&&x.there
def oz(m:Module)(l:List Import)(t:ByteArray):Option Import:=if o9 m.uses t then l.find? (wY t)else none
def pJ:gU:=⟨[],[]⟩
def bZ(m:Module)(l:List Import)(t:ByteArray):gU:=match oz m l t with|some x=>x.face|none=>pJ
def ku(m:Module)(l:List Import)(t:ByteArray):Bool:=(oz m l t).isSome
theorem Uw{m:Module}{l:List Import}{t:ByteArray}{k:Nat}{x:Import}(hu:o9 m.uses t=true)(hx:l[k]? =some x)(h:wY t x=true)(hb:∀j,j<k→∀y,l[j]? =some y→wY t y=false):oz m l t=some x:=by
 unfold oz;rw[if_pos hu,List.find?_eq_some_iff_getElem];obtain⟨hk,rfl⟩:=List.getElem?_eq_some_iff.1 hx;refine⟨h,k,hk,rfl,fun j hj=>?_⟩;have:=hb j hj _ (aK (by omega));simp[this]
theorem Bg{m:Module}{l:List Import}{t:ByteArray}(h:o9 m.uses t=false∨∀j,j<l.length→∀y,l[j]? =some y→wY t y=false):oz m l t=none:=by
 unfold oz;rcases h with h|h
 ·rw[h];rfl
 ·split
  ·rw[List.find?_eq_none];intro y hy;obtain⟨j,hj,rfl⟩:=List.mem_iff_getElem.1 hy;simp[h j hj _ (aK hj)]
  ·rfl
theorem xR{α:Type}(p:α→Bool)(l:List α):(fidx p l= -1∧∀j,j<l.length→∀y,l[j]? =some y→p y=false)∨∃(k:Nat) (x:α),fidx p l=(k:Int)∧l[k]? =some x∧p x=true∧∀j,j<k→∀y,l[j]? =some y→p y=false:=by
 unfold fidx;cases h:l.findIdx? p with
 |none=>
  rw[List.findIdx?_eq_none_iff]at h;exact .inl ⟨rfl,fun j hj y hy=>h y (List.mem_of_getElem? hy)⟩
 |some i=>
  obtain⟨hi,hp,hb⟩:=List.findIdx?_eq_some_iff_getElem.1 h;refine .inr ⟨i,l[i],rfl,aK hi,hp,fun j hj y hy=>?_⟩;have h1:=hb j hj;obtain⟨hj',rfl⟩:=List.getElem?_eq_some_iff.1 hy;simpa using h1
theorem aa1(x:Import)(cs:List Value)(F:aV)(t:ByteArray)(a:Addr)(W:World)(hx:aU W F cs x)(ha:W.cell? a=some (.string t)):
  Calls prog 157 #[.agg cs.toArray,.pointer (some a)] W fun e w'=>e=.returned (.bool (wY t x))∧Below W.heap.size W w':=by
 have hlt:=World.block_lt_of_cell? W _ ha;obtain⟨T1,e1,T2,e2,rfl⟩:=aU.form hx;clear hx;unfold wY iT;go_enter func157,ntmps157;cases hq:(x.name.toList==t.toList);all_goals (go_wp2;go_ret;exact⟨by simp,by go_grown⟩)
theorem vX(m:Module)(l:List Import)(t:ByteArray)(cs:List Value)(v:Value)(F G:aV)(w:World)(hF:∀k,F k→k<w.heap.size)(hG:∀k,G k→k<w.heap.size)
  (hm:aN w F cs m) (hl:SliceOf aU 4 72 w G v l):
  Calls prog 95 #[.agg cs.toArray,v,.string t] w fun e w'=>∃ds:List Value,e=.returned (.tuple #[.agg ds.toArray,.bool (ku m l t)])∧Below w.heap.size w w'∧bD w' (fresh w.heap.size w'.heap.size) ds (bZ m l t):=by
 obtain⟨U1,u1,T1,e1,T2,e2,rfl,hu,ht,hf⟩:=aN.form hm;obtain⟨L1,l1,rfl,_,_,hll,_⟩:=hl.form;obtain⟨E1,hE1⟩:∃z,(ku m l t)=z:=⟨_,rfl⟩;rw[hE1]at⊢;have vk:=Lib.hid hE1;clear hE1;obtain⟨E2,hE2⟩:∃z,(bZ m l t)=z:=⟨_,rfl⟩;rw[hE2]at⊢;have HE2:=Lib.hid hE2;clear hE2;obtain⟨HU,HL⟩:=aj hu hl;clear hu hl;clear ht hf hm;go_enter func95,ntmps95;go_wp2_with fail;have dX:=(((Box.made w 27 #[.slice U1 m.uses.length u1,.slice T1 m.types.length e1,.slice T2 m.funcs.length e2]).alloc (.cells #[.string t] 9)).alloc (.cells #[.slice none 0 0,.slice none 0 0] 42));have dM:=((Box.made (w.alloc (.cells #[.slice U1 m.uses.length u1,.slice T1 m.types.length e1,.slice T2 m.funcs.length e2] 27)) 9 #[.string t]).alloc (.cells #[.slice none 0 0,.slice none 0 0] 42));rw[show(w.alloc (.cells #[.slice U1 m.uses.length u1,.slice T1 m.types.length e1,.slice T2 m.funcs.length e2] 27)).heap.size=w.heap.size+1 by simp only[World.size_alloc]]at dM;have fE:=(Box.made ((w.alloc (.cells #[.slice U1 m.uses.length u1,.slice T1 m.types.length e1,.slice T2 m.funcs.length e2] 27)).alloc (.cells #[.string t] 9)) 42 #[.slice none 0 0,.slice none 0 0]);rw[show((w.alloc (.cells #[.slice U1 m.uses.length u1,.slice T1 m.types.length e1,.slice T2 m.funcs.length e2] 27)).alloc (.cells #[.string t] 9)).heap.size=w.heap.size+1+1 by simp only[World.size_alloc]]at fE;have hbb:Below w.heap.size w (((w.alloc (.cells #[.slice U1 m.uses.length u1,.slice T1 m.types.length e1,.slice T2 m.funcs.length e2] 27)).alloc (.cells #[.string t] 9)).alloc (.cells #[.slice none 0 0,.slice none 0 0] 42)):=by go_grown
 have hzb:(((w.alloc (.cells #[.slice U1 m.uses.length u1,.slice T1 m.types.length e1,.slice T2 m.funcs.length e2] 27)).alloc (.cells #[.string t] 9)).alloc (.cells #[.slice none 0 0,.slice none 0 0] 42)).heap.size=w.heap.size+1+1+1:=by simp only[World.size_alloc]
 generalize((w.alloc (.cells #[.slice U1 m.uses.length u1,.slice T1 m.types.length e1,.slice T2 m.funcs.length e2] 27)).alloc (.cells #[.string t] 9)).alloc (.cells #[.slice none 0 0,.slice none 0 0] 42)=W1 at dX dM fE hbb hzb⊢;have hcell:=fun(U:World) (hU:Below W1.heap.size W1 U)=>(dM.later hU dM.lt).at_ 0 (.string t) rfl
 have hG1:=bg hG hbb;have hL1:=HL.out.up aU.stays hG hbb;have hidx:=EW (.slice L1 l.length l1) l G 157 #[.pointer (some ⟨w.heap.size+1,0,none⟩)] (wY t) W1 (enters_of func157 (by kernel_rfl) rfl) hG1 hL1 (fun U x cs _ hU hr=>by
  have h:=aa1 x cs G t ⟨w.heap.size+1,0,none⟩ U hr (hcell U hU);obtain⟨T3,e3,T4,e4,rfl⟩:=aU.form hr;exact h)
 have hk:=xR (wY t) l;obtain⟨z,hz⟩:∃z,(fidx (wY t) l)=z:=⟨_,rfl⟩;rw[hz]at hidx hk;have Z:=Lib.hid hz;clear hz;obtain⟨HK,HI,Ed,HG1⟩:=au hk hidx hL1 hG1;clear hk hidx hL1 hG1;clear hcell;refine HI.out.mono ?_;rintro e W2 ⟨rfl,hb2⟩;have hB1:=dX.later hb2 dX.lt;have hB2:=dM.later hb2 dM.lt;have hB3:=fE.later hb2 fE.lt;have hbw:=hbb.trans (hb2.mono (by omega));have p0:=hB1.at_ 0 _ rfl;have q0:=hB2.at_ 0 _ rfl;have r0:=hB3.at_ 0 _ rfl;have r1:=hB3.at_ 1 _ rfl;have g0:=hB3.free 0;have g1:=hB3.free 1;have hcon:=qL (.slice U1 m.uses.length u1) m.uses F t W2 (HU.out.up aY.stays hF hbw);obtain⟨zu,hzu⟩:∃z,(o9 m.uses t)=z:=⟨_,rfl⟩;rw[hzu]at hcon;have ZU:=Lib.hid hzu;clear hzu;obtain⟨HB3,cO,HC,Hz⟩:=au hB3 hbw hcon hzb;clear hB3 hbw hcon hzb;clear dX dM fE hb2 hbb hB1 hB2;rcases HK.out with ⟨hz1,hall⟩|⟨k,x,hz1,hx,hfx,hall⟩
 ·subst hz1;have hE:oz m l t=none:=Bg (.inr hall);have h1:E1=false:=by rw[←vk.out,ku,hE];rfl
  have h2:E2=pJ:=by rw[←HE2.out,bZ,hE]
  subst h1;subst h2;clear hall hE;go_wp2_with(go_at_call 96;refine HC.out.mono ?_;rintro e w' ⟨rfl,rfl⟩);exact bodyPost_ret (v:=.tuple #[.agg #[.slice none 0 0,.slice none 0 0],.bool false]) (by simp[results,results95,go_sem,r0,r1]) rfl ⟨[.slice none 0 0,.slice none 0 0],rfl,(cO.out.setCell (by simp<;>omega) _).setCell (by simp<;>omega) _,_,_,rfl,SliceOf.nil_,SliceOf.nil_⟩
 ·subst hz1;have hk2:k<l.length:=(List.getElem?_eq_some_iff.1 hx).1;have hkz:decide ((k:Int)<0)=false:=decide_eq_false (by omega);have ah2:¬(k:Int)<0:=by omega
  cases zu with
  |false=>
   have hE:oz m l t=none:=Bg (.inl ZU.out);have h1:E1=false:=by rw[←vk.out,ku,hE];rfl
   have h2:E2=pJ:=by rw[←HE2.out,bZ,hE]
   subst h1;subst h2;clear hall hE hx hfx;go_wp2_with(go_at_call 96;refine HC.out.mono ?_;rintro e w' ⟨rfl,rfl⟩);exact bodyPost_ret (v:=.tuple #[.agg #[.slice none 0 0,.slice none 0 0],.bool false]) (by simp[results,results95,go_sem,r0,r1]) rfl ⟨[.slice none 0 0,.slice none 0 0],rfl,(cO.out.setCell (by simp<;>omega) _).setCell (by simp<;>omega) _,_,_,rfl,SliceOf.nil_,SliceOf.nil_⟩
  |true=>
   have hE:oz m l t=some x:=Uw ZU.out hx hfx hall;have h1:E1=true:=by rw[←vk.out,ku,hE];rfl
   have h2:E2=x.face:=by rw[←HE2.out,bZ,hE]
   subst h1;subst h2;obtain⟨b1,off,cs,rfl,hbG,hcs,hr,hcell⟩:=(HL.out.up aU.stays hG cO.out).at_ hk2;rw[(List.getElem?_eq_some_iff.1 hx).2]at hr;obtain⟨T3,e3,T4,e4,rfl⟩:=aU.form hr;have hc0:=hcell 0 _ rfl;have hc1:=hcell 1 _ rfl;have hc2:=hcell 2 _ rfl;have hc3:=hcell 3 _ rfl;simp only[Nat.add_zero]at hc0;have hcp:=fun(U:World) (hU:Below W2.heap.size W2 U)=>QL x.face [.slice T3 x.face.types.length e3,.slice T4 x.face.funcs.length e4] G U (bg (bg hG cO.out) hU) (bD.stays.later (aU.face hr) hU (bg hG cO.out))
   have HCP:=ah hcp;clear hcp;clear hall hE hx hfx hr hcell hcs;go_wp2_with(go_at_call 96;refine HC.out.mono ?_;rintro e w' ⟨rfl,rfl⟩);refine(HCP.out _ (Below.refl _ _)).mono ?_;rintro e W3 ⟨ds,rfl,hb3,hfr⟩;have hB3:=HB3.out.later hb3 HB3.out.lt;have r0:=hB3.at_ 0 _ rfl;have r1:=hB3.at_ 1 _ rfl;have g0:=hB3.free 0;have g1:=hB3.free 1;obtain⟨T5,e5,T6,e6,rfl⟩:=bD.form hfr;have hbx:=cO.out.trans (hb3.mono cO.out.size);have hlo:=cO.out.size;have hr2:=HB3.out.lt;have hfin:=bD.stays.wider (bD.stays.set (p:=⟨w.heap.size+1+1,1,none⟩) (bD.stays.set (p:=⟨w.heap.size+1+1,0,none⟩) hfr (fH hr2) (.slice T5 x.face.types.length e5)) (fH hr2) (.slice T6 x.face.funcs.length e6)) (jQ hlo (aJ _));obtain⟨oq,HFin⟩:=aj hbx hfin;clear hbx hfin;clear hfr hb3 hB3;go_wp2_with fail;exact bodyPost_ret (v:=.tuple #[.agg #[.slice T5 x.face.types.length e5,.slice T6 x.face.funcs.length e6],.bool true]) (by simp[results,results95,go_sem,r0,r1]) rfl ⟨_,rfl,(oq.out.setCell (by simp<;>omega) _).setCell (by simp<;>omega) _,by simpa only[size_set]using HFin.out⟩
theorem Dc(m:Module)(l:List Import)(t:ByteArray)(cs:List Value)(v:Value)(F G:aV)(w:World)(hF:∀k,F k→k<w.heap.size)(hG:∀k,G k→k<w.heap.size)
  (hm:aN w F cs m) (hl:SliceOf aU 4 72 w G v l):
  Calls prog 101 #[.agg cs.toArray,v,.string t] w fun e w'=>∃ds:List Value,e=.returned (.tuple #[.agg ds.toArray,.bool (ku m l t)])∧Below w.heap.size w w'∧bD w' G ds (bZ m l t):=by
 obtain⟨U1,u1,T1,e1,T2,e2,rfl,hu,ht,hf⟩:=aN.form hm;obtain⟨L1,l1,rfl,_,_,hll,_⟩:=hl.form;obtain⟨E1,hE1⟩:∃z,(ku m l t)=z:=⟨_,rfl⟩;rw[hE1]at⊢;have vk:=Lib.hid hE1;clear hE1;obtain⟨E2,hE2⟩:∃z,(bZ m l t)=z:=⟨_,rfl⟩;rw[hE2]at⊢;have HE2:=Lib.hid hE2;clear hE2;obtain⟨HU,HL⟩:=aj hu hl;clear hu hl;clear ht hf hm;go_enter func101,ntmps101;go_wp2_with fail;have dX:=((Box.made w 27 #[.slice U1 m.uses.length u1,.slice T1 m.types.length e1,.slice T2 m.funcs.length e2]).alloc (.cells #[.slice none 0 0,.slice none 0 0] 42));have dM:=(Box.made (w.alloc (.cells #[.slice U1 m.uses.length u1,.slice T1 m.types.length e1,.slice T2 m.funcs.length e2] 27)) 42 #[.slice none 0 0,.slice none 0 0]);rw[show(w.alloc (.cells #[.slice U1 m.uses.length u1,.slice T1 m.types.length e1,.slice T2 m.funcs.length e2] 27)).heap.size=w.heap.size+1 by simp only[World.size_alloc]]at dM;have hbb:Below w.heap.size w ((w.alloc (.cells #[.slice U1 m.uses.length u1,.slice T1 m.types.length e1,.slice T2 m.funcs.length e2] 27)).alloc (.cells #[.slice none 0 0,.slice none 0 0] 42)):=by go_grown
 have hzb:((w.alloc (.cells #[.slice U1 m.uses.length u1,.slice T1 m.types.length e1,.slice T2 m.funcs.length e2] 27)).alloc (.cells #[.slice none 0 0,.slice none 0 0] 42)).heap.size=w.heap.size+1+1:=by simp only[World.size_alloc]
 generalize(w.alloc (.cells #[.slice U1 m.uses.length u1,.slice T1 m.types.length e1,.slice T2 m.funcs.length e2] 27)).alloc (.cells #[.slice none 0 0,.slice none 0 0] 42)=W1 at dX dM hbb hzb⊢;have p0:=dX.at_ 0 _ rfl;have r0:=dM.at_ 0 _ rfl;have r1:=dM.at_ 1 _ rfl;have g0:=dM.free 0;have g1:=dM.free 1;have hcon:=Ad (.slice U1 m.uses.length u1) m.uses F t W1 (HU.out.up aY.stays hF hbb);obtain⟨zu,hzu⟩:∃z,(o9 m.uses t)=z:=⟨_,rfl⟩;rw[hzu]at hcon;have ZU:=Lib.hid hzu;clear hzu;have hlb:=dM.lt;have Ed:=Lib.hid (HL.out.up aU.stays hG hbb);have hGn:∀k,G k→k≠w.heap.size+1:=fun k hk=>by have:=hG k hk;omega
 obtain⟨HC,cO,Hz,HG,HB1,HB2⟩:=aA hcon hbb hzb hGn dX dM;clear hcon hbb hzb hGn dX dM;go_loopg [8] l.length (fun gg s8 wr=>∃kk:Nat,kk≤l.length∧l.length-kk≤gg∧s8=.int .i64 kk∧W1=wr∧Aside (∀j,j<kk→∀y,l[j]? =some y→o9 m.uses t=true→wY t y=false))
 case atStart=>exact⟨0,Nat.zero_le _,by omega,rfl,rfl,aside (fun j hj=>absurd hj (Nat.not_lt_zero _))⟩
 case round=>
  obtain⟨kk,hkk,hg,rfl,rfl,Al⟩:=hrel
  by_cases hlt:kk<l.length
  ·have hltz:(kk:Int)<(l.length:Int):=by omega
   obtain⟨b1,off,cs,rfl,hbG,hcs,hr,hcell⟩:=Ed.out.at_ hlt;have hx:=aK hlt;generalize l[kk]=x at*;obtain⟨T3,e3,T4,e4,rfl⟩:=aU.form hr;have hc0:=hcell 0 _ rfl;have hc1:=hcell 1 _ rfl;have hc2:=hcell 2 _ rfl;have hc3:=hcell 3 _ rfl;simp only[Nat.add_zero]at hc0;have hfr:=aU.face hr;obtain⟨HX,HR⟩:=aj hx hfr;clear hx hfr;clear hcell hcs hr;cases hq1:(x.name.toList==t.toList)<;>cases hq2:x.there<;>cases zu
   case true.true.true=>
    have hE:oz m l t=some x:=Uw ZU.out HX.out (by simp[wY,iT,hq1,hq2]) (fun j hj y hy=>Al.out j hj y hy ZU.out);have h1:E1=true:=by rw[←vk.out,ku,hE];rfl
    have h2:E2=x.face:=by rw[←HE2.out,bZ,hE]
    subst h1;subst h2;have hfin:=bD.stays.set (p:=⟨w.heap.size+1,1,none⟩) (bD.stays.set (p:=⟨w.heap.size+1,0,none⟩) HR.out (fun h=>HG.out _ h rfl) (.slice T3 x.face.types.length e3)) (fun h=>HG.out _ h rfl) (.slice T4 x.face.funcs.length e4);have HFin:=ah hfin;clear hfin;clear hE;go_wp2_with(go_at_call 42;refine HC.out.mono ?_;rintro e w' ⟨rfl,rfl⟩);exact bodyPost_ret (v:=.tuple #[.agg #[.slice T3 x.face.types.length e3,.slice T4 x.face.funcs.length e4],.bool true]) (by simp[results,results101,go_sem,r0,r1]) rfl ⟨_,rfl,(cO.out.setCell (by simp<;>omega) _).setCell (by simp<;>omega) _,HFin.out⟩
   all_goals
    have hno:=Lib.hid (show ∀j,j<kk+1→∀y,l[j]? =some y→o9 m.uses t=true→wY t y=false from fun j hj y hy hz=>by
     by_cases e:j=kk
     ·subst e;have h:=HX.out;rw[hy]at h;injection h with h;subst h
      rw[ZU.out]at hz
      simp_all [wY,iT]
     ·exact Al.out j (by omega) y hy hz)
    go_wp2_with(go_at_call 42;refine HC.out.mono ?_;rintro e w' ⟨rfl,rfl⟩);go_roundg (l.length-(kk+1))
    case measure=>omega
    case rel=>exact⟨kk+1,by omega,by omega,by go_num,rfl,aside hno.out⟩
  ·have hltz:¬(kk:Int)<(l.length:Int):=by omega
   obtain rfl:kk=l.length:=by omega
   have hE:oz m l t=none:=by
    cases zu with
    |false=>exact Bg (.inl ZU.out)
    |true=>exact Bg (.inr (fun j hj y hy=>Al.out j hj y hy ZU.out))
   have h1:E1=false:=by rw[←vk.out,ku,hE];rfl
   have h2:E2=pJ:=by rw[←HE2.out,bZ,hE]
   subst h1;subst h2;clear hE;go_wp2_with fail;exact bodyPost_ret (v:=.tuple #[.agg #[.slice none 0 0,.slice none 0 0],.bool false]) (by simp[results,results101,go_sem,r0,r1]) rfl ⟨[.slice none 0 0,.slice none 0 0],rfl,(cO.out.setCell (by simp<;>omega) _).setCell (by simp<;>omega) _,_,_,rfl,SliceOf.nil_,SliceOf.nil_⟩
end Go.Proofs.YtjaladhdnbhliaaGreatDoor
