/- Parts. -/
import Derived.Test.YtjaladhdnbhliaaGreatDoorQTreeChk3
import Derived.Test.YtjaladhdnbhliaaGreatDoorQPuts
import Derived.Deep.RegionHeld3
set_option maxHeartbeats 16000000
set_option maxRecDepth 100000
namespace Go.Proofs.YtjaladhdnbhliaaGreatDoor
open Go.Proofs.Tryz
open Go.RowKit
def abm:ByteArray:=⟨#[105,110,116]⟩
def VL:ByteArray:=⟨#[116,101,120,116]⟩
def nC(ps:List Known)(s:ByteArray):ByteArray×Int:=match ps.find? (fun x=>iT x.name s)with|some x=>(x.dV,0)|none=>(⟨#[]⟩,6)
def gB(f:Ex→ByteArray×Int)(fin:List ByteArray→ByteArray×Int)(args:List Ex):ByteArray×Int:=
 if dL (fun a=>(f a).2) args≠0 then(⟨#[]⟩,dL (fun a=>(f a).2) args)else fin (args.map fun a=>(f a).1)
def nth(L:List ByteArray)(i:Nat):ByteArray:=L.getD i ⟨#[]⟩
def D9(L:List ByteArray):ByteArray×Int:=if iT (nth L 0) (nth L 1)=true∧(iT (nth L 0) abm=true∨iT (nth L 0) VL=true)then(nth L 0,0)else(⟨#[]⟩,8)
def oD(L:List ByteArray):ByteArray×Int:=if kK (nth L 0)=0∧L.all (fun t=>iT t (nth L 0))=true then(jH (nth L 0),0)else(⟨#[]⟩,8)
def atR(L:List ByteArray):ByteArray×Int:=if(elemOf (nth L 0)).isSome=true∧iT (nth L 1) abm=true then((elemOf (nth L 0)).getD ⟨#[]⟩,0)else(⟨#[]⟩,8)
def yE(g:kR)(L:List ByteArray):ByteArray×Int:=if(oV g.params L g.result).2≠0 then(⟨#[]⟩,8)else((oV g.params L g.result).1,0)
def eU(m:Module)(l:List Import)(own:gU)(o:ByteArray):gU:=if o.size=0 then own else bZ m l o
def ZW(m:Module)(l:List Import)(own:gU)(ps:List Known):Nat→Ex→ByteArray×Int
 |0,_=>(⟨#[]⟩,0)
 |n+1,.mk k _ o s args=>
  if k=1 then(abm,0)else if k=2 then(VL,0)else if k=3 then nC ps s
  else if k=4 then
   if jR (eU m l own o).funcs s≠0 then(⟨#[]⟩,6)
   else if(kW (eU m l own o).funcs s).params.length≠args.length then(⟨#[]⟩,7)
   else gB (ZW m l own ps n) (yE (kW (eU m l own o).funcs s)) args
  else if k=5 then gB (ZW m l own ps n) D9 args
  else if k=6 then gB (ZW m l own ps n) oD args
  else gB (ZW m l own ps n) atR args
section
variable {f:Ex→ByteArray×Int} {fin:List ByteArray→ByteArray×Int} {args:List Ex}
theorem mg{k:Nat}{a:Ex}{z:Int}(hx:args[k]? =some a)(h:(f a).2=z)(h0:z≠0)(hb:∀j,j<k→∀y,args[j]? =some y→(f y).2=0):gB f fin args=(⟨#[]⟩,z):=by
 have he:=eP (g:=fun a=>(f a).2) hx h h0 hb;unfold gB;rw[he,if_pos h0]
theorem kS(hb:∀j,j<args.length→∀y,args[j]? =some y→(f y).2=0):gB f fin args=fin (args.map fun a=>(f a).1):=by
 unfold gB;rw[fM (g:=fun a=>(f a).2) hb,if_neg (by decide)]
end
theorem aaN(ps as_:List ByteArray)(r:ByteArray):(oV ps as_ r).1.size≤600:=by
 have h0:(⟨#[]⟩:ByteArray).size≤600:=Nat.zero_le _;unfold oV;split
 ·exact h0
 split
 ·exact h0
 split
 ·exact h0
 split
 ·exact h0
 split
 ·exact h0
 ·unfold yF;split
  ·next hk=>
   split
   ·split
    ·split
     ·exact h0
     ·next h=>exact Nat.le_of_not_lt h
    ·exact h0
   ·exact(qC hk).1
  ·exact h0
theorem N9(s:ByteArray):(jH s).size≤600:=by
 unfold jH;split
 ·split
  ·exact Nat.zero_le _
  ·next h=>
   unfold listOf;rw[vC,vC]
   show 1+s.size+1≤600
   omega
 ·exact Nat.zero_le _
theorem pK:okS ⟨#[]⟩:=Nat.zero_le _
theorem ada{s:ByteArray}(h:okS s):okS ((elemOf s).getD ⟨#[]⟩):=by
 cases he:elemOf s with
 |none=>exact pK
 |some t=>
  have:=dK he;have hs:s.size≤140737488355328:=h
  show t.size≤140737488355328
  omega
theorem aed{L:List ByteArray}(h:∀s∈L,okS s)(i:Nat):okS (nth L i):=by
 unfold nth;rw[List.getD_eq_getElem?_getD];cases hx:L[i]? with
 |none=>exact pK
 |some s=>exact h s (List.mem_of_getElem? hx)
theorem Bl{f:Ex→ByteArray×Int}{fin:List ByteArray→ByteArray×Int}(hf:∀a,okS (f a).1)(hfin:∀L:List ByteArray,(∀s∈L,okS s)→okS (fin L).1)(args:List Ex):okS (gB f fin args).1:=by
 unfold gB;split
 ·exact pK
 ·exact hfin _ fun s hs=>by obtain⟨a,_,rfl⟩:=List.mem_map.1 hs;exact hf a
theorem YB{m:Module}{l:List Import}{own:gU}{ps:List Known}(hp:∀p∈ps,okS p.dV):∀(n:Nat) (x:Ex),okS (ZW m l own ps n x).1
 |0,_=>pK
 |n+1,.mk k v o s args=>by
  have ih:=YB hp n (m:=m) (l:=l) (own:=own);unfold ZW;split
  ·show(3:Nat)≤_;decide
  split
  ·show(4:Nat)≤_;decide
  split
  ·unfold nC;cases hx:ps.find? (fun x=>iT x.name s)with
   |none=>exact pK
   |some x=>exact hp x (List.mem_of_find?_eq_some hx)
  split
  ·split
   ·exact pK
   split
   ·exact pK
   ·refine Bl ih (fun L _=>?_) args;unfold yE;split
    ·exact pK
    ·exact Nat.le_trans (aaN _ _ _) (by decide)
  split
  ·refine Bl ih (fun L hL=>?_) args;unfold D9;split
   ·exact aed hL 0
   ·exact pK
  split
  ·refine Bl ih (fun L _=>?_) args;unfold oD;split
   ·exact Nat.le_trans (N9 _) (by decide)
   ·exact pK
  ·refine Bl ih (fun L hL=>?_) args;unfold atR;split
   ·exact ada (aed hL 0)
   ·exact pK
open Go.Shelf
def JZ(n:Nat)(f:Ex→ByteArray×Int)(m:Module)(l:List Import)(own:gU)(ps:List Known):Prop:=
 ∀(x:Ex) (ms:List Value) (lv:Value) (os:List Value) (pv:Value) (cs:List Value) (F:aV) (w:World),iE n x=0→(∀k,F k→k<w.heap.size)→aN w F ms m→SliceOf aU 4 72 w F lv l→bD w F os own→SliceOf aW 2 32 w F pv ps→dN w F cs x→
  Calls prog 104 #[.agg ms.toArray,lv,.agg os.toArray,pv,.agg cs.toArray] w fun e w'=>e=.returned (.tuple #[.string (f x).1,.int .i64 (f x).2])∧Below w.heap.size w w'
theorem Bj:abm.toList= [105,110,116]:=by rw[ByteArray.toList_eq];rfl
theorem Nk:VL.toList= [116,101,120,116]:=by rw[ByteArray.toList_eq];rfl
theorem SL{L:List ByteArray}(h:L.length=2):∃p q,L= [p,q]:=by
 match L,h with|[p,q],_=>exact⟨p,q,rfl⟩
theorem Kq{m:Module}{l:List Import}{own:gU}{o:ByteArray}(h:o.toList.isEmpty=true):eU m l own o=own:=by unfold eU;rw[if_pos (uh h)]
theorem Ih{m:Module}{l:List Import}{own:gU}{o:ByteArray}(h:o.toList.isEmpty=false):eU m l own o=bZ m l o:=by unfold eU;rw[if_neg (size_pos h)]
theorem PO{ps:List Known}{s:ByteArray}{k:Nat}{x:Known}(hx:ps[k]? =some x)(h:iT x.name s=true)(hb:∀j,j<k→∀y,ps[j]? =some y→iT y.name s=false):nC ps s=(x.dV,0):=by
 have hf:ps.find? (fun x=>iT x.name s)=some x:=by
  rw[List.find?_eq_some_iff_getElem];obtain⟨hk,rfl⟩:=List.getElem?_eq_some_iff.1 hx;refine⟨h,k,hk,rfl,fun j hj=>?_⟩;have:=hb j hj _ (aK (by omega));simp[this]
 unfold nC;rw[hf]
theorem Lu{ps:List Known}{s:ByteArray}(hb:∀j,j<ps.length→∀y,ps[j]? =some y→iT y.name s=false):nC ps s=(⟨#[]⟩,6):=by
 have hf:ps.find? (fun x=>iT x.name s)=none:=by
  rw[List.find?_eq_none];intro y hy;obtain⟨j,hj,rfl⟩:=List.mem_iff_getElem.1 hy;simp[hb j hj _ (aK hj)]
 unfold nC;rw[hf]
section
variable (m:Module) (l:List Import) (own:gU) (ps:List Known) (v:Int) (o s:ByteArray) (na:Nat) (ms:List Value) (lv:Value) (os:List Value) (pv:Value) (A:Option Addr) (c:Nat) (F:aV) (w:World)
theorem adV(hm:aN w F ms m)(ho:bD w F os own):
  Calls prog 104 #[.agg ms.toArray,lv,.agg os.toArray,pv,.agg #[.int .i64 1,.int .i64 v,.string o,.string s,.slice A na c]] w fun e w'=>
   e=.returned (.tuple #[.string abm,.int .i64 0])∧Below w.heap.size w w':=by
 obtain⟨U1,u1,T1,e1,T2,e2,rfl,_⟩:=aN.form hm;obtain⟨T3,e3,T4,e4,rfl⟩:=bD.form ho;clear hm ho;go_enter func104,ntmps104;go_upto_region 1 with fail
 have dX:=(((Box.made w 27 #[.slice U1 m.uses.length u1,.slice T1 m.types.length e1,.slice T2 m.funcs.length e2]).alloc (.cells #[.slice T3 own.types.length e3,.slice T4 own.funcs.length e4] 42)).alloc (.cells #[.int .i64 1,.int .i64 v,.string o,.string s,.slice A na c] 81));have dM:=((Box.made (w.alloc (.cells #[.slice U1 m.uses.length u1,.slice T1 m.types.length e1,.slice T2 m.funcs.length e2] 27)) 42 #[.slice T3 own.types.length e3,.slice T4 own.funcs.length e4]).alloc (.cells #[.int .i64 1,.int .i64 v,.string o,.string s,.slice A na c] 81));rw[show(w.alloc (.cells #[.slice U1 m.uses.length u1,.slice T1 m.types.length e1,.slice T2 m.funcs.length e2] 27)).heap.size=w.heap.size+1 by simp only[World.size_alloc]]at dM;have fE:=(Box.made ((w.alloc (.cells #[.slice U1 m.uses.length u1,.slice T1 m.types.length e1,.slice T2 m.funcs.length e2] 27)).alloc (.cells #[.slice T3 own.types.length e3,.slice T4 own.funcs.length e4] 42)) 81 #[.int .i64 1,.int .i64 v,.string o,.string s,.slice A na c]);rw[show((w.alloc (.cells #[.slice U1 m.uses.length u1,.slice T1 m.types.length e1,.slice T2 m.funcs.length e2] 27)).alloc (.cells #[.slice T3 own.types.length e3,.slice T4 own.funcs.length e4] 42)).heap.size=w.heap.size+1+1 by simp only[World.size_alloc]]at fE;have hbb:Below w.heap.size w (((w.alloc (.cells #[.slice U1 m.uses.length u1,.slice T1 m.types.length e1,.slice T2 m.funcs.length e2] 27)).alloc (.cells #[.slice T3 own.types.length e3,.slice T4 own.funcs.length e4] 42)).alloc (.cells #[.int .i64 1,.int .i64 v,.string o,.string s,.slice A na c] 81)):=by go_grown
 have hzb:(((w.alloc (.cells #[.slice U1 m.uses.length u1,.slice T1 m.types.length e1,.slice T2 m.funcs.length e2] 27)).alloc (.cells #[.slice T3 own.types.length e3,.slice T4 own.funcs.length e4] 42)).alloc (.cells #[.int .i64 1,.int .i64 v,.string o,.string s,.slice A na c] 81)).heap.size=w.heap.size+1+1+1:=by simp only[World.size_alloc]
 generalize((w.alloc (.cells #[.slice U1 m.uses.length u1,.slice T1 m.types.length e1,.slice T2 m.funcs.length e2] 27)).alloc (.cells #[.slice T3 own.types.length e3,.slice T4 own.funcs.length e4] 42)).alloc (.cells #[.int .i64 1,.int .i64 v,.string o,.string s,.slice A na c] 81)=W1 at dX dM fE hbb hzb⊢;have x0:=fE.at_ 0 _ rfl;go_wp2_with fail
 go_ret2
 exact⟨rfl,hbb⟩
theorem adY(hm:aN w F ms m)(ho:bD w F os own):
  Calls prog 104 #[.agg ms.toArray,lv,.agg os.toArray,pv,.agg #[.int .i64 2,.int .i64 v,.string o,.string s,.slice A na c]] w fun e w'=>
   e=.returned (.tuple #[.string VL,.int .i64 0])∧Below w.heap.size w w':=by
 obtain⟨U1,u1,T1,e1,T2,e2,rfl,_⟩:=aN.form hm;obtain⟨T3,e3,T4,e4,rfl⟩:=bD.form ho;clear hm ho;go_enter func104,ntmps104;go_upto_region 1 with fail
 have dX:=(((Box.made w 27 #[.slice U1 m.uses.length u1,.slice T1 m.types.length e1,.slice T2 m.funcs.length e2]).alloc (.cells #[.slice T3 own.types.length e3,.slice T4 own.funcs.length e4] 42)).alloc (.cells #[.int .i64 2,.int .i64 v,.string o,.string s,.slice A na c] 81));have dM:=((Box.made (w.alloc (.cells #[.slice U1 m.uses.length u1,.slice T1 m.types.length e1,.slice T2 m.funcs.length e2] 27)) 42 #[.slice T3 own.types.length e3,.slice T4 own.funcs.length e4]).alloc (.cells #[.int .i64 2,.int .i64 v,.string o,.string s,.slice A na c] 81));rw[show(w.alloc (.cells #[.slice U1 m.uses.length u1,.slice T1 m.types.length e1,.slice T2 m.funcs.length e2] 27)).heap.size=w.heap.size+1 by simp only[World.size_alloc]]at dM;have fE:=(Box.made ((w.alloc (.cells #[.slice U1 m.uses.length u1,.slice T1 m.types.length e1,.slice T2 m.funcs.length e2] 27)).alloc (.cells #[.slice T3 own.types.length e3,.slice T4 own.funcs.length e4] 42)) 81 #[.int .i64 2,.int .i64 v,.string o,.string s,.slice A na c]);rw[show((w.alloc (.cells #[.slice U1 m.uses.length u1,.slice T1 m.types.length e1,.slice T2 m.funcs.length e2] 27)).alloc (.cells #[.slice T3 own.types.length e3,.slice T4 own.funcs.length e4] 42)).heap.size=w.heap.size+1+1 by simp only[World.size_alloc]]at fE;have hbb:Below w.heap.size w (((w.alloc (.cells #[.slice U1 m.uses.length u1,.slice T1 m.types.length e1,.slice T2 m.funcs.length e2] 27)).alloc (.cells #[.slice T3 own.types.length e3,.slice T4 own.funcs.length e4] 42)).alloc (.cells #[.int .i64 2,.int .i64 v,.string o,.string s,.slice A na c] 81)):=by go_grown
 have hzb:(((w.alloc (.cells #[.slice U1 m.uses.length u1,.slice T1 m.types.length e1,.slice T2 m.funcs.length e2] 27)).alloc (.cells #[.slice T3 own.types.length e3,.slice T4 own.funcs.length e4] 42)).alloc (.cells #[.int .i64 2,.int .i64 v,.string o,.string s,.slice A na c] 81)).heap.size=w.heap.size+1+1+1:=by simp only[World.size_alloc]
 generalize((w.alloc (.cells #[.slice U1 m.uses.length u1,.slice T1 m.types.length e1,.slice T2 m.funcs.length e2] 27)).alloc (.cells #[.slice T3 own.types.length e3,.slice T4 own.funcs.length e4] 42)).alloc (.cells #[.int .i64 2,.int .i64 v,.string o,.string s,.slice A na c] 81)=W1 at dX dM fE hbb hzb⊢;have x0:=fE.at_ 0 _ rfl;go_wp2_with fail
 go_ret2
 exact⟨rfl,hbb⟩
theorem adW(hF:∀k,F k→k<w.heap.size)(hm:aN w F ms m)(ho:bD w F os own)(hp:SliceOf aW 2 32 w F pv ps):
  Calls prog 104 #[.agg ms.toArray,lv,.agg os.toArray,pv,.agg #[.int .i64 3,.int .i64 v,.string o,.string s,.slice A na c]] w fun e w'=>
   e=.returned (.tuple #[.string (nC ps s).1,.int .i64 (nC ps s).2])∧Below w.heap.size w w':=by
 obtain⟨U1,u1,T1,e1,T2,e2,rfl,_⟩:=aN.form hm;obtain⟨T3,e3,T4,e4,rfl⟩:=bD.form ho;obtain⟨P1,p1,rfl,_⟩:=hp.form;obtain⟨E,hE⟩:∃z,nC ps s=z:=⟨_,rfl⟩;rw[hE];have hpl:ps.length≤9223372036854775807:=by
  obtain⟨A',c',e,h1,h2,_⟩:=hp;unfold maxLen at h2;omega
 obtain⟨HP,HE⟩:=aj hp hE;clear hp hE;clear hm ho;go_enter func104,ntmps104;go_upto_region 1 with fail
 have dX:=(((Box.made w 27 #[.slice U1 m.uses.length u1,.slice T1 m.types.length e1,.slice T2 m.funcs.length e2]).alloc (.cells #[.slice T3 own.types.length e3,.slice T4 own.funcs.length e4] 42)).alloc (.cells #[.int .i64 3,.int .i64 v,.string o,.string s,.slice A na c] 81));have dM:=((Box.made (w.alloc (.cells #[.slice U1 m.uses.length u1,.slice T1 m.types.length e1,.slice T2 m.funcs.length e2] 27)) 42 #[.slice T3 own.types.length e3,.slice T4 own.funcs.length e4]).alloc (.cells #[.int .i64 3,.int .i64 v,.string o,.string s,.slice A na c] 81));rw[show(w.alloc (.cells #[.slice U1 m.uses.length u1,.slice T1 m.types.length e1,.slice T2 m.funcs.length e2] 27)).heap.size=w.heap.size+1 by simp only[World.size_alloc]]at dM;have fE:=(Box.made ((w.alloc (.cells #[.slice U1 m.uses.length u1,.slice T1 m.types.length e1,.slice T2 m.funcs.length e2] 27)).alloc (.cells #[.slice T3 own.types.length e3,.slice T4 own.funcs.length e4] 42)) 81 #[.int .i64 3,.int .i64 v,.string o,.string s,.slice A na c]);rw[show((w.alloc (.cells #[.slice U1 m.uses.length u1,.slice T1 m.types.length e1,.slice T2 m.funcs.length e2] 27)).alloc (.cells #[.slice T3 own.types.length e3,.slice T4 own.funcs.length e4] 42)).heap.size=w.heap.size+1+1 by simp only[World.size_alloc]]at fE;have hbb:Below w.heap.size w (((w.alloc (.cells #[.slice U1 m.uses.length u1,.slice T1 m.types.length e1,.slice T2 m.funcs.length e2] 27)).alloc (.cells #[.slice T3 own.types.length e3,.slice T4 own.funcs.length e4] 42)).alloc (.cells #[.int .i64 3,.int .i64 v,.string o,.string s,.slice A na c] 81)):=by go_grown
 have hzb:(((w.alloc (.cells #[.slice U1 m.uses.length u1,.slice T1 m.types.length e1,.slice T2 m.funcs.length e2] 27)).alloc (.cells #[.slice T3 own.types.length e3,.slice T4 own.funcs.length e4] 42)).alloc (.cells #[.int .i64 3,.int .i64 v,.string o,.string s,.slice A na c] 81)).heap.size=w.heap.size+1+1+1:=by simp only[World.size_alloc]
 generalize((w.alloc (.cells #[.slice U1 m.uses.length u1,.slice T1 m.types.length e1,.slice T2 m.funcs.length e2] 27)).alloc (.cells #[.slice T3 own.types.length e3,.slice T4 own.funcs.length e4] 42)).alloc (.cells #[.int .i64 3,.int .i64 v,.string o,.string s,.slice A na c] 81)=W1 at dX dM fE hbb hzb⊢;have x0:=fE.at_ 0 _ rfl;obtain⟨HB3,HB⟩:=aj fE hbb;clear fE hbb;clear dX dM hzb;go_wp2_with fail;go_loopg [12] ps.length (fun gg s12 wr=>∃kk:Nat,kk≤ps.length∧ps.length-kk≤gg∧s12=.int .i64 kk∧Aside (∀j,j<kk→∀y,ps[j]? =some y→iT y.name s=false)∧Aside (Below W1.heap.size W1 wr))
 case atStart=>exact⟨0,Nat.zero_le _,by omega,rfl,aside (fun j hj=>absurd hj (Nat.not_lt_zero _)),aside (Below.refl _ _)⟩
 case round=>
  obtain⟨kk,hkk,hg,rfl,hal,BW⟩:=hrel;have hbw:=HB.out.trans (BW.out.mono HB.out.size);clear x0
  by_cases hlt:kk<ps.length
  ·have hltz:(kk:Int)<(ps.length:Int):=by omega
   obtain⟨b1,off,ds,rfl,jc,hds,⟨rfl,_⟩,hcell⟩:=(HP.out.up aW.stays hF hbw).at_ (k:=kk) hlt;have hc0:=hcell 0 _ rfl;have hc1:=hcell 1 _ rfl;simp only[Nat.add_zero]at hc0;have hB3:=HB3.out.later BW.out HB3.out.lt;have x3:=hB3.at_ 3 _ rfl;have hx:=aK hlt;generalize ps[kk]=y at*;obtain⟨HX,cO⟩:=aj hx hbw;clear hx hbw;clear hcell hds hB3 jc;cases h1:(y.name.toList==s.toList)with
   |true=>
    have he:=HE.out.symm.trans (PO HX.out h1 hal.out);subst he;go_upto_region 10 with fail
    go_quiet(fail);go_wp2_with fail
    go_ret2
    exact⟨rfl,below_drewN cO.out _⟩
   |false=>
    go_upto_region 10 with fail
    go_quiet(fail);go_wp2_with fail;go_roundg (ps.length-(kk+1))
    case measure=>omega
    case rel=>
     refine⟨kk+1,by omega,by omega,by go_num,aside (fun j hj y' hy'=>?_),aside (below_drewN BW.out _)⟩
     by_cases hjk:j=kk
     ·subst hjk;obtain rfl:y=y':=Option.some.inj (HX.out.symm.trans hy');exact h1
     ·exact hal.out j (by omega) y' hy'
  ·have hltz:¬(kk:Int)<(ps.length:Int):=by omega
   obtain rfl:kk=ps.length:=by omega
   have he:=HE.out.symm.trans (Lu hal.out);subst he;have cO:=ah hbw;clear hbw;go_wp2_with fail
   go_ret2
   exact⟨rfl,cO.out⟩
end
theorem adX(n:Nat)(f:Ex→ByteArray×Int)(m:Module)(l:List Import)(own:gU)(ps:List Known)(ih:JZ n f m l own ps)(hok:∀a,okS (f a).1)
  (v:Int) (o s:ByteArray) (args:List Ex) (h8:args.length≤8) (hall:∀a∈args,iE n a=0) (h2:args.length=2)
  (ms:List Value) (lv:Value) (os:List Value) (pv:Value) (A:Option Addr) (c:Nat) (F:aV) (w:World) (hF:∀k,F k→k<w.heap.size) (hm:aN w F ms m) (hl:SliceOf aU 4 72 w F lv l) (ho:bD w F os own) (hp:SliceOf aW 2 32 w F pv ps)
  (hA:SliceOf dN 5 72 w F (.slice A args.length c) args):
  Calls prog 104 #[.agg ms.toArray,lv,.agg os.toArray,pv,.agg #[.int .i64 5,.int .i64 v,.string o,.string s,.slice A args.length c]] w fun e w'=>
   e=.returned (.tuple #[.string (gB f D9 args).1,.int .i64 (gB f D9 args).2])∧Below w.heap.size w w':=by
 have hrec:=fun a (ha:a∈args) ds U (hU:Below w.heap.size w U) (hr:dN U F ds a)=>ih a ms lv os pv ds F U (hall a ha) (bg hF hU) (aN.stays.later hm hU hF) (hl.up aU.stays hF hU) (bD.stays.later ho hU hF) (hp.up aW.stays hF hU) hr
 obtain⟨U1,u1,T1,e1,T2,e2,rfl,_⟩:=aN.form hm;obtain⟨L1,l1,rfl,_⟩:=hl.form;obtain⟨T3,e3,T4,e4,rfl⟩:=bD.form ho;obtain⟨P1,p1,rfl,_⟩:=hp.form;have hAc:args.length≤c∧c≤9223372036854775807:=by
  obtain⟨A',c',e,h1,h2,_⟩:=hA;injection e with e1 e2 e3
  subst e3;exact⟨h1,by unfold maxLen at h2;omega⟩
 have hbad:=fun(k:Nat) (a:Ex) (z:Int)=>mg (f:=f) (fin:=D9) (args:=args) (k:=k) (a:=a) (z:=z)
 have hgood:=kS (f:=f) (fin:=D9) (args:=args);generalize gB f D9 args=E at hbad hgood⊢;obtain⟨H2,xK,HA,HBAD,jk,xH⟩:=aA h2 hrec hA hbad hgood hok;clear h2 hrec hA hbad hgood hok;clear hm hl ho hp ih hall;go_enter func104,ntmps104;go_upto_region 1 with fail
 have dX:=(((Box.made w 27 #[.slice U1 m.uses.length u1,.slice T1 m.types.length e1,.slice T2 m.funcs.length e2]).alloc (.cells #[.slice T3 own.types.length e3,.slice T4 own.funcs.length e4] 42)).alloc (.cells #[.int .i64 5,.int .i64 v,.string o,.string s,.slice A args.length c] 81));have dM:=((Box.made (w.alloc (.cells #[.slice U1 m.uses.length u1,.slice T1 m.types.length e1,.slice T2 m.funcs.length e2] 27)) 42 #[.slice T3 own.types.length e3,.slice T4 own.funcs.length e4]).alloc (.cells #[.int .i64 5,.int .i64 v,.string o,.string s,.slice A args.length c] 81));rw[show(w.alloc (.cells #[.slice U1 m.uses.length u1,.slice T1 m.types.length e1,.slice T2 m.funcs.length e2] 27)).heap.size=w.heap.size+1 by simp only[World.size_alloc]]at dM;have fE:=(Box.made ((w.alloc (.cells #[.slice U1 m.uses.length u1,.slice T1 m.types.length e1,.slice T2 m.funcs.length e2] 27)).alloc (.cells #[.slice T3 own.types.length e3,.slice T4 own.funcs.length e4] 42)) 81 #[.int .i64 5,.int .i64 v,.string o,.string s,.slice A args.length c]);rw[show((w.alloc (.cells #[.slice U1 m.uses.length u1,.slice T1 m.types.length e1,.slice T2 m.funcs.length e2] 27)).alloc (.cells #[.slice T3 own.types.length e3,.slice T4 own.funcs.length e4] 42)).heap.size=w.heap.size+1+1 by simp only[World.size_alloc]]at fE;have hbb:Below w.heap.size w (((w.alloc (.cells #[.slice U1 m.uses.length u1,.slice T1 m.types.length e1,.slice T2 m.funcs.length e2] 27)).alloc (.cells #[.slice T3 own.types.length e3,.slice T4 own.funcs.length e4] 42)).alloc (.cells #[.int .i64 5,.int .i64 v,.string o,.string s,.slice A args.length c] 81)):=by go_grown
 have hzb:(((w.alloc (.cells #[.slice U1 m.uses.length u1,.slice T1 m.types.length e1,.slice T2 m.funcs.length e2] 27)).alloc (.cells #[.slice T3 own.types.length e3,.slice T4 own.funcs.length e4] 42)).alloc (.cells #[.int .i64 5,.int .i64 v,.string o,.string s,.slice A args.length c] 81)).heap.size=w.heap.size+1+1+1:=by simp only[World.size_alloc]
 generalize((w.alloc (.cells #[.slice U1 m.uses.length u1,.slice T1 m.types.length e1,.slice T2 m.funcs.length e2] 27)).alloc (.cells #[.slice T3 own.types.length e3,.slice T4 own.funcs.length e4] 42)).alloc (.cells #[.int .i64 5,.int .i64 v,.string o,.string s,.slice A args.length c] 81)=W1 at dX dM fE hbb hzb⊢;have x0:=fE.at_ 0 _ rfl;have x4:=fE.at_ 4 _ rfl;go_upto_region 14 with fail
 have hBg:=Box.made W1 62 #[.string ⟨#[]⟩,.slice none 0 0,.string ⟨#[]⟩];have hbg:Below W1.heap.size W1 (W1.alloc (.cells #[.string ⟨#[]⟩,.slice none 0 0,.string ⟨#[]⟩] 62)):=by go_grown
 have hzg:(W1.alloc (.cells #[.string ⟨#[]⟩,.slice none 0 0,.string ⟨#[]⟩] 62)).heap.size=W1.heap.size+1:=by simp
 generalize W1.alloc (.cells #[.string ⟨#[]⟩,.slice none 0 0,.string ⟨#[]⟩] 62)=W2 at hBg hbg hzg⊢;have hB1:=dX.later hbg dX.lt;have hB2:=dM.later hbg dM.lt;have hB3:=fE.later hbg fE.lt;have hb2:=hbb.trans (hbg.mono hbb.size);clear x0 x4;have x0:=hB3.at_ 0 _ rfl;have x4:=hB3.at_ 4 _ rfl;obtain⟨HB1,HB2,HB3,rH⟩:=au hB1 hB2 hB3 hb2;clear hB1 hB2 hB3 hb2;clear dX dM fE hbb hzb hBg hbg hzg;go_wp2_with fail;go_loopg [17,18,19,20] args.length (fun gg s17 s18 _ _ wr=>∃(jj c:Nat) (B:Option Addr) (L:List ByteArray),jj≤args.length∧args.length-jj≤gg∧s18=.int .i64 jj∧s17=.slice B L.length c∧Aside (L=(args.take jj).map fun a=>(f a).1)∧Aside (∀j,j<jj→∀y,args[j]? =some y→(f y).2=0)∧
  Aside (aZ aY 1 9 W2.heap.size wr none_ (.slice B L.length c) L)∧Aside (Below W2.heap.size W2 wr))
 case atStart=>exact⟨0,0,none,[],Nat.zero_le _,by omega,rfl,rfl,aside rfl,aside (fun j hj=>absurd hj (Nat.not_lt_zero _)),aside aZ.nil_,aside (Below.refl _ _)⟩
 case round=>
  obtain⟨jj,c',B,L,hjj,hg,rfl,rfl,hL,hz,hO,BW⟩:=hrel;have hbw:=rH.out.trans (BW.out.mono rH.out.size);have hB1:=HB1.out.later BW.out HB1.out.lt;have hB2:=HB2.out.later BW.out HB2.out.lt;have hB3:=HB3.out.later BW.out HB3.out.lt;clear x0 x4;have x0:=hB3.at_ 0 _ rfl;have x4:=hB3.at_ 4 _ rfl
  by_cases hlt:jj<args.length
  ·have hltz:(jj:Int)<(args.length:Int):=by omega
   have vG:L.length=jj:=by rw[hL.out];simp;omega
   obtain⟨b1,off,ds,rfl,jc,hds,hr,hcell⟩:=(HA.out.up dN.stays hF hbw).at_ (k:=jj) hlt;have hx:=aK hlt;have hxm:=List.getElem_mem hlt;generalize args[jj]=a at hx hxm hr;obtain⟨A2,c2,rfl⟩:=dN.form hr;have hc0:=hcell 0 _ rfl;have hc1:=hcell 1 _ rfl;have hc2:=hcell 2 _ rfl;have hc3:=hcell 3 _ rfl;have hc4:=hcell 4 _ rfl;simp only[Nat.add_zero]at hc0;have hbl:b1<wr.heap.size:=bg hF hbw _ jc;have hrc:=fun U (hU:Below wr.heap.size wr U)=>xK.out a hxm _ U (aS hbw hU) (dN.stays.later hr hU (bg hF hbw))
   have Dn:=xH.out a;obtain⟨T,hT⟩:∃z,(f a).1=z:=⟨_,rfl⟩;obtain⟨z,hzz⟩:∃z,(f a).2=z:=⟨_,rfl⟩;rw[hT,hzz]at hrc;rw[hT]at Dn;have y0:=hB1.at_ 0 _ rfl;have y1:=hB1.at_ 1 _ rfl;have y2:=hB1.at_ 2 _ rfl;have q0:=hB2.at_ 0 _ rfl;have q1:=hB2.at_ 1 _ rfl;have YF:=hB1.lt;have l2':=hB2.lt;have l3':=hB3.lt;have hdr:Below wr.heap.size wr wr.drew:=by go_grown
   have Ia:=Lib.hid (show ∀w',Below wr.heap.size wr w'→(w'.cell? ⟨w.heap.size,0,none⟩=some (.slice U1 m.uses.length u1)∧w'.cell? ⟨w.heap.size,1,none⟩=some (.slice T1 m.types.length e1)∧w'.cell? ⟨w.heap.size,2,none⟩=some (.slice T2 m.funcs.length e2)∧w'.cell? ⟨w.heap.size+1,0,none⟩=some (.slice T3 own.types.length e3)∧w'.cell? ⟨w.heap.size+1,1,none⟩=some (.slice T4 own.funcs.length e4)∧w'.cell? ⟨w.heap.size+1+1,4,none⟩=some (.slice (some ⟨b1,off,none⟩) args.length c)∧w'.cell? ⟨b1,off+jj*5,none⟩=some (.int .i64 a.kind)∧w'.cell? ⟨b1,off+jj*5+1,none⟩=some (.int .i64 a.n)∧w'.cell? ⟨b1,off+jj*5+2,none⟩=some (.string a.bT)∧w'.cell? ⟨b1,off+jj*5+3,none⟩=some (.string a.s)∧w'.cell? ⟨b1,off+jj*5+4,none⟩=some (.slice A2 a.args.length c2))from fun w' h=>⟨(h.cell (p:=⟨w.heap.size,0,none⟩) YF).trans y0,(h.cell (p:=⟨w.heap.size,1,none⟩) YF).trans y1,(h.cell (p:=⟨w.heap.size,2,none⟩) YF).trans y2,(h.cell (p:=⟨w.heap.size+1,0,none⟩) l2').trans q0,(h.cell (p:=⟨w.heap.size+1,1,none⟩) l2').trans q1,(h.cell (p:=⟨w.heap.size+1+1,4,none⟩) l3').trans x4,(h.cell (p:=⟨b1,off+jj*5,none⟩) hbl).trans hc0,(h.cell (p:=⟨b1,off+jj*5+1,none⟩) hbl).trans hc1,(h.cell (p:=⟨b1,off+jj*5+2,none⟩) hbl).trans hc2,(h.cell (p:=⟨b1,off+jj*5+3,none⟩) hbl).trans hc3,(h.cell (p:=⟨b1,off+jj*5+4,none⟩) hbl).trans hc4⟩);obtain⟨HX,JR,HT,HZ,bP,zy,JK⟩:=aB hx hrc hT hzz hdr hbw vG;clear hx hrc hT hzz hdr hbw vG;go_upto_region 28 with fail
   clear hcell hds hr hxm hB1 hB2 hB3 jc y0 y1 y2 q0 q1 x0 x4 hc0 hc1 hc2 hc3 hc4
   by_cases hz0:z=0
   ·subst hz0
    go_region_held3(fun w'=>w'.cell? ⟨w.heap.size,0,none⟩=some (.slice U1 m.uses.length u1)∧w'.cell? ⟨w.heap.size,1,none⟩=some (.slice T1 m.types.length e1)∧w'.cell? ⟨w.heap.size,2,none⟩=some (.slice T2 m.funcs.length e2)∧w'.cell? ⟨w.heap.size+1,0,none⟩=some (.slice T3 own.types.length e3)∧w'.cell? ⟨w.heap.size+1,1,none⟩=some (.slice T4 own.funcs.length e4)∧w'.cell? ⟨w.heap.size+1+1,4,none⟩=some (.slice (some ⟨b1,off,none⟩) args.length c)∧w'.cell? ⟨b1,off+jj*5,none⟩=some (.int .i64 a.kind)∧w'.cell? ⟨b1,off+jj*5+1,none⟩=some (.int .i64 a.n)∧w'.cell? ⟨b1,off+jj*5+2,none⟩=some (.string a.bT)∧w'.cell? ⟨b1,off+jj*5+3,none⟩=some (.string a.s)∧w'.cell? ⟨b1,off+jj*5+4,none⟩=some (.slice A2 a.args.length c2))
     (exact Ia.out _ (by first|exact bP.out|exact bP.out.alloc bP.out.size _|(go_grown;done)|exact(bP.out.alloc bP.out.size _).alloc (bP.out.alloc bP.out.size _).size _|exact bP.out.setCell (aJ _) _|exact(bP.out.setCell (aJ _) _).setCell (aJ _) _))
     ((go_at_call 104;(with_reducible refine(JR.out _ bP.out).mono ?_);rintro e w7 ⟨rfl,oZ⟩;have hb8:=aS bP.out oZ;have bP:=Lib.hid hb8;clear hb8 oZ))
    all_goals
     have sF:=hO.out.below aY.stays bP.out;have uG:=BW.out.trans (bP.out.mono BW.out.size);obtain⟨xJ,kG⟩:=aj sF uG;clear sF uG;go_wp2_with(at_builtin;go_must((refine bH aY.stays (.string ⟨#[]⟩) [.string T] T rfl rfl underlying23 (bytes:=16) (by kernel_rfl) xJ.out rfl rfl (by decide) rfl rfl (show aY w7 none_ _ _ from⟨rfl,Dn⟩) (aY.one (w:=w7) (F:=none_) _ _ ⟨rfl,Dn⟩) (fun k hk=>hk.elim) (by unfold maxLen;have:=JK.out;omega) (by have:=JK.out;omega) (by have:=kG.out.size;omega) ?_);(intro A6 c6 W6 mV hgr _;have hb6:=kG.out.trans (hgr.below (B:=W2.heap.size) (aJ _) kG.out.size);have uq:=Lib.hid mV;have kH:=Lib.hid hb6;clear mV hgr hb6)));go_roundg (args.length-(jj+1))
     case measure=>omega
     case rel=>
      refine⟨jj+1,c6,A6,L++ [T],by omega,by omega,by go_num,by simp,aside ?_,aside (fO (g:=fun a=>(f a).2) HX.out HZ.out hz.out),aside ?_,aside kH.out⟩
      ·rw[List.take_add_one,HX.out,List.map_append,hL.out];simp[HT.out]
      ·have h:=aZ.wider aY.stays uq.out (F':=none_) (fun k hk=>hk.elim id id) (fun k hk=>hk.elim);simpa using h
   ·have hzb:(z==0)=false:=by simp[hz0]
    have he:=HBAD.out jj a z HX.out HZ.out hz0 hz.out;subst he
    go_region_held3(fun w'=>w'.cell? ⟨w.heap.size,0,none⟩=some (.slice U1 m.uses.length u1)∧w'.cell? ⟨w.heap.size,1,none⟩=some (.slice T1 m.types.length e1)∧w'.cell? ⟨w.heap.size,2,none⟩=some (.slice T2 m.funcs.length e2)∧w'.cell? ⟨w.heap.size+1,0,none⟩=some (.slice T3 own.types.length e3)∧w'.cell? ⟨w.heap.size+1,1,none⟩=some (.slice T4 own.funcs.length e4)∧w'.cell? ⟨w.heap.size+1+1,4,none⟩=some (.slice (some ⟨b1,off,none⟩) args.length c)∧w'.cell? ⟨b1,off+jj*5,none⟩=some (.int .i64 a.kind)∧w'.cell? ⟨b1,off+jj*5+1,none⟩=some (.int .i64 a.n)∧w'.cell? ⟨b1,off+jj*5+2,none⟩=some (.string a.bT)∧w'.cell? ⟨b1,off+jj*5+3,none⟩=some (.string a.s)∧w'.cell? ⟨b1,off+jj*5+4,none⟩=some (.slice A2 a.args.length c2))
     (exact Ia.out _ (by first|exact bP.out|exact bP.out.alloc bP.out.size _|(go_grown;done)|exact(bP.out.alloc bP.out.size _).alloc (bP.out.alloc bP.out.size _).size _|exact bP.out.setCell (aJ _) _|exact(bP.out.setCell (aJ _) _).setCell (aJ _) _))
     ((go_at_call 104;(with_reducible refine(JR.out _ bP.out).mono ?_);rintro e w7 ⟨rfl,oZ⟩;have hb8:=aS bP.out oZ;have bP:=Lib.hid hb8;clear hb8 oZ))
    all_goals
     go_wp2_with fail
     go_ret2
     exact⟨rfl,aS zy.out bP.out⟩
  ·have hltz:¬(jj:Int)<(args.length:Int):=by omega
   obtain rfl:jj=args.length:=by omega
   obtain⟨W7,rfl⟩:∃W,W=wr:=⟨_,rfl⟩;have he:=jk.out hz.out;have hL2:L=args.map fun a=>(f a).1:=by rw[hL.out,List.take_length]
   have vG:L.length=args.length:=by rw[hL2,List.length_map]
   rw[←hL2]at he;have uF:∀s∈L,okS s:=fun s hs=>by rw[hL2]at hs;obtain⟨a,_,rfl⟩:=List.mem_map.1 hs;exact xH.out a
   have hsl:=hO.out.slice aY.stays (jZ:=16) (F':=old W7.heap.size) (fun k hk=>hk.elim) (fun k h1 h2=>h2) (by omega) (by omega);obtain⟨p,q,rfl⟩:=SL (vG.trans H2.out);have hop:=uF p (by simp);have hoq:=uF q (by simp);obtain⟨b1,off,ds,hB,jc,hds,⟨rfl,_⟩,hcell⟩:=hsl.at_ (k:=0) (by simp);have hp0:=hcell 0 _ rfl;obtain⟨b2,off2,ds2,hB',KT,QV,⟨rfl,_⟩,hcell2⟩:=hsl.at_ (k:=1) (by simp);have hq0:=hcell2 0 _ rfl;subst hB;injection hB' with hB'
   injection hB' with e1 e2
   subst e1;subst e2;simp only[Nat.zero_mul,Nat.one_mul,Nat.add_zero,List.getElem_cons_zero,List.getElem_cons_succ]at hp0 hq0;obtain⟨HE,cO⟩:=aj he hbw;clear he hbw;clear hcell hcell2 hds QV hsl hL2 vG uF hz hO hB1 hB2 hB3;have he:E=if(p.toList==q.toList)=true∧((p.toList== [105,110,116])=true∨(p.toList== [116,101,120,116])=true)then(p,0)else(⟨#[]⟩,8):=by rw[HE.out];unfold D9 nth iT;rw[Bj,Nk];rfl
   simp only[List.length_cons,List.length_nil,Nat.zero_add]at*;cases h1:(p.toList==q.toList);all_goals cases h3:(p.toList== [105,110,116])
   all_goals cases h4:(p.toList== [116,101,120,116])
   all_goals
    have hE2:=he;rw[h1,h3,h4]at hE2;simp at hE2;subst hE2;clear he;go_upto_region 39 with fail
    go_quiet(fail);go_wp2_with fail
    go_ret2
    exact⟨rfl,below_drewN cO.out _⟩
theorem YA(n:Nat)(f:Ex→ByteArray×Int)(m:Module)(l:List Import)(own:gU)(ps:List Known)(ih:JZ n f m l own ps)(hok:∀a,okS (f a).1)
  (v:Int) (o s:ByteArray) (args:List Ex) (h8:args.length≤8) (hall:∀a∈args,iE n a=0) (h2:1≤args.length)
  (ms:List Value) (lv:Value) (os:List Value) (pv:Value) (A:Option Addr) (c:Nat) (F:aV) (w:World) (hF:∀k,F k→k<w.heap.size) (hm:aN w F ms m) (hl:SliceOf aU 4 72 w F lv l) (ho:bD w F os own) (hp:SliceOf aW 2 32 w F pv ps)
  (hA:SliceOf dN 5 72 w F (.slice A args.length c) args):
  Calls prog 104 #[.agg ms.toArray,lv,.agg os.toArray,pv,.agg #[.int .i64 6,.int .i64 v,.string o,.string s,.slice A args.length c]] w fun e w'=>
   e=.returned (.tuple #[.string (gB f oD args).1,.int .i64 (gB f oD args).2])∧Below w.heap.size w w':=by
 have hrec:=fun a (ha:a∈args) ds U (hU:Below w.heap.size w U) (hr:dN U F ds a)=>ih a ms lv os pv ds F U (hall a ha) (bg hF hU) (aN.stays.later hm hU hF) (hl.up aU.stays hF hU) (bD.stays.later ho hU hF) (hp.up aW.stays hF hU) hr
 obtain⟨U1,u1,T1,e1,T2,e2,rfl,_⟩:=aN.form hm;obtain⟨L1,l1,rfl,_⟩:=hl.form;obtain⟨T3,e3,T4,e4,rfl⟩:=bD.form ho;obtain⟨P1,p1,rfl,_⟩:=hp.form;have hAc:args.length≤c∧c≤9223372036854775807:=by
  obtain⟨A',c',e,h1,h2,_⟩:=hA;injection e with e1 e2 e3
  subst e3;exact⟨h1,by unfold maxLen at h2;omega⟩
 have hbad:=fun(k:Nat) (a:Ex) (z:Int)=>mg (f:=f) (fin:=oD) (args:=args) (k:=k) (a:=a) (z:=z)
 have hgood:=kS (f:=f) (fin:=oD) (args:=args);generalize gB f oD args=E at hbad hgood⊢;obtain⟨H2,xK,HA,HBAD,jk,xH⟩:=aA h2 hrec hA hbad hgood hok;clear h2 hrec hA hbad hgood hok;clear hm hl ho hp ih hall;go_enter func104,ntmps104;go_upto_region 1 with fail
 have dX:=(((Box.made w 27 #[.slice U1 m.uses.length u1,.slice T1 m.types.length e1,.slice T2 m.funcs.length e2]).alloc (.cells #[.slice T3 own.types.length e3,.slice T4 own.funcs.length e4] 42)).alloc (.cells #[.int .i64 6,.int .i64 v,.string o,.string s,.slice A args.length c] 81));have dM:=((Box.made (w.alloc (.cells #[.slice U1 m.uses.length u1,.slice T1 m.types.length e1,.slice T2 m.funcs.length e2] 27)) 42 #[.slice T3 own.types.length e3,.slice T4 own.funcs.length e4]).alloc (.cells #[.int .i64 6,.int .i64 v,.string o,.string s,.slice A args.length c] 81));rw[show(w.alloc (.cells #[.slice U1 m.uses.length u1,.slice T1 m.types.length e1,.slice T2 m.funcs.length e2] 27)).heap.size=w.heap.size+1 by simp only[World.size_alloc]]at dM;have fE:=(Box.made ((w.alloc (.cells #[.slice U1 m.uses.length u1,.slice T1 m.types.length e1,.slice T2 m.funcs.length e2] 27)).alloc (.cells #[.slice T3 own.types.length e3,.slice T4 own.funcs.length e4] 42)) 81 #[.int .i64 6,.int .i64 v,.string o,.string s,.slice A args.length c]);rw[show((w.alloc (.cells #[.slice U1 m.uses.length u1,.slice T1 m.types.length e1,.slice T2 m.funcs.length e2] 27)).alloc (.cells #[.slice T3 own.types.length e3,.slice T4 own.funcs.length e4] 42)).heap.size=w.heap.size+1+1 by simp only[World.size_alloc]]at fE;have hbb:Below w.heap.size w (((w.alloc (.cells #[.slice U1 m.uses.length u1,.slice T1 m.types.length e1,.slice T2 m.funcs.length e2] 27)).alloc (.cells #[.slice T3 own.types.length e3,.slice T4 own.funcs.length e4] 42)).alloc (.cells #[.int .i64 6,.int .i64 v,.string o,.string s,.slice A args.length c] 81)):=by go_grown
 have hzb:(((w.alloc (.cells #[.slice U1 m.uses.length u1,.slice T1 m.types.length e1,.slice T2 m.funcs.length e2] 27)).alloc (.cells #[.slice T3 own.types.length e3,.slice T4 own.funcs.length e4] 42)).alloc (.cells #[.int .i64 6,.int .i64 v,.string o,.string s,.slice A args.length c] 81)).heap.size=w.heap.size+1+1+1:=by simp only[World.size_alloc]
 generalize((w.alloc (.cells #[.slice U1 m.uses.length u1,.slice T1 m.types.length e1,.slice T2 m.funcs.length e2] 27)).alloc (.cells #[.slice T3 own.types.length e3,.slice T4 own.funcs.length e4] 42)).alloc (.cells #[.int .i64 6,.int .i64 v,.string o,.string s,.slice A args.length c] 81)=W1 at dX dM fE hbb hzb⊢;have x0:=fE.at_ 0 _ rfl;have x4:=fE.at_ 4 _ rfl;go_upto_region 14 with fail
 have hBg:=Box.made W1 62 #[.string ⟨#[]⟩,.slice none 0 0,.string ⟨#[]⟩];have hbg:Below W1.heap.size W1 (W1.alloc (.cells #[.string ⟨#[]⟩,.slice none 0 0,.string ⟨#[]⟩] 62)):=by go_grown
 have hzg:(W1.alloc (.cells #[.string ⟨#[]⟩,.slice none 0 0,.string ⟨#[]⟩] 62)).heap.size=W1.heap.size+1:=by simp
 generalize W1.alloc (.cells #[.string ⟨#[]⟩,.slice none 0 0,.string ⟨#[]⟩] 62)=W2 at hBg hbg hzg⊢;have hB1:=dX.later hbg dX.lt;have hB2:=dM.later hbg dM.lt;have hB3:=fE.later hbg fE.lt;have hb2:=hbb.trans (hbg.mono hbb.size);clear x0 x4;have x0:=hB3.at_ 0 _ rfl;have x4:=hB3.at_ 4 _ rfl;obtain⟨HB1,HB2,HB3,rH⟩:=au hB1 hB2 hB3 hb2;clear hB1 hB2 hB3 hb2;clear dX dM fE hbb hzb hBg hbg hzg;go_wp2_with fail;go_loopg [17,18,19,20] args.length (fun gg s17 s18 _ _ wr=>∃(jj c:Nat) (B:Option Addr) (L:List ByteArray),jj≤args.length∧args.length-jj≤gg∧s18=.int .i64 jj∧s17=.slice B L.length c∧Aside (L=(args.take jj).map fun a=>(f a).1)∧Aside (∀j,j<jj→∀y,args[j]? =some y→(f y).2=0)∧
  Aside (aZ aY 1 9 W2.heap.size wr none_ (.slice B L.length c) L)∧Aside (Below W2.heap.size W2 wr))
 case atStart=>exact⟨0,0,none,[],Nat.zero_le _,by omega,rfl,rfl,aside rfl,aside (fun j hj=>absurd hj (Nat.not_lt_zero _)),aside aZ.nil_,aside (Below.refl _ _)⟩
 case round=>
  obtain⟨jj,c',B,L,hjj,hg,rfl,rfl,hL,hz,hO,BW⟩:=hrel;have hbw:=rH.out.trans (BW.out.mono rH.out.size);have hB1:=HB1.out.later BW.out HB1.out.lt;have hB2:=HB2.out.later BW.out HB2.out.lt;have hB3:=HB3.out.later BW.out HB3.out.lt;clear x0 x4;have x0:=hB3.at_ 0 _ rfl;have x4:=hB3.at_ 4 _ rfl
  by_cases hlt:jj<args.length
  ·have hltz:(jj:Int)<(args.length:Int):=by omega
   have vG:L.length=jj:=by rw[hL.out];simp;omega
   obtain⟨b1,off,ds,rfl,jc,hds,hr,hcell⟩:=(HA.out.up dN.stays hF hbw).at_ (k:=jj) hlt;have hx:=aK hlt;have hxm:=List.getElem_mem hlt;generalize args[jj]=a at hx hxm hr;obtain⟨A2,c2,rfl⟩:=dN.form hr;have hc0:=hcell 0 _ rfl;have hc1:=hcell 1 _ rfl;have hc2:=hcell 2 _ rfl;have hc3:=hcell 3 _ rfl;have hc4:=hcell 4 _ rfl;simp only[Nat.add_zero]at hc0;have hbl:b1<wr.heap.size:=bg hF hbw _ jc;have hrc:=fun U (hU:Below wr.heap.size wr U)=>xK.out a hxm _ U (aS hbw hU) (dN.stays.later hr hU (bg hF hbw))
   have Dn:=xH.out a;obtain⟨T,hT⟩:∃z,(f a).1=z:=⟨_,rfl⟩;obtain⟨z,hzz⟩:∃z,(f a).2=z:=⟨_,rfl⟩;rw[hT,hzz]at hrc;rw[hT]at Dn;have y0:=hB1.at_ 0 _ rfl;have y1:=hB1.at_ 1 _ rfl;have y2:=hB1.at_ 2 _ rfl;have q0:=hB2.at_ 0 _ rfl;have q1:=hB2.at_ 1 _ rfl;have YF:=hB1.lt;have l2':=hB2.lt;have l3':=hB3.lt;have hdr:Below wr.heap.size wr wr.drew:=by go_grown
   have Ia:=Lib.hid (show ∀w',Below wr.heap.size wr w'→(w'.cell? ⟨w.heap.size,0,none⟩=some (.slice U1 m.uses.length u1)∧w'.cell? ⟨w.heap.size,1,none⟩=some (.slice T1 m.types.length e1)∧w'.cell? ⟨w.heap.size,2,none⟩=some (.slice T2 m.funcs.length e2)∧w'.cell? ⟨w.heap.size+1,0,none⟩=some (.slice T3 own.types.length e3)∧w'.cell? ⟨w.heap.size+1,1,none⟩=some (.slice T4 own.funcs.length e4)∧w'.cell? ⟨w.heap.size+1+1,4,none⟩=some (.slice (some ⟨b1,off,none⟩) args.length c)∧w'.cell? ⟨b1,off+jj*5,none⟩=some (.int .i64 a.kind)∧w'.cell? ⟨b1,off+jj*5+1,none⟩=some (.int .i64 a.n)∧w'.cell? ⟨b1,off+jj*5+2,none⟩=some (.string a.bT)∧w'.cell? ⟨b1,off+jj*5+3,none⟩=some (.string a.s)∧w'.cell? ⟨b1,off+jj*5+4,none⟩=some (.slice A2 a.args.length c2))from fun w' h=>⟨(h.cell (p:=⟨w.heap.size,0,none⟩) YF).trans y0,(h.cell (p:=⟨w.heap.size,1,none⟩) YF).trans y1,(h.cell (p:=⟨w.heap.size,2,none⟩) YF).trans y2,(h.cell (p:=⟨w.heap.size+1,0,none⟩) l2').trans q0,(h.cell (p:=⟨w.heap.size+1,1,none⟩) l2').trans q1,(h.cell (p:=⟨w.heap.size+1+1,4,none⟩) l3').trans x4,(h.cell (p:=⟨b1,off+jj*5,none⟩) hbl).trans hc0,(h.cell (p:=⟨b1,off+jj*5+1,none⟩) hbl).trans hc1,(h.cell (p:=⟨b1,off+jj*5+2,none⟩) hbl).trans hc2,(h.cell (p:=⟨b1,off+jj*5+3,none⟩) hbl).trans hc3,(h.cell (p:=⟨b1,off+jj*5+4,none⟩) hbl).trans hc4⟩);obtain⟨HX,JR,HT,HZ,bP,zy,JK⟩:=aB hx hrc hT hzz hdr hbw vG;clear hx hrc hT hzz hdr hbw vG;go_upto_region 28 with fail
   clear hcell hds hr hxm hB1 hB2 hB3 jc y0 y1 y2 q0 q1 x0 x4 hc0 hc1 hc2 hc3 hc4
   by_cases hz0:z=0
   ·subst hz0
    go_region_held3(fun w'=>w'.cell? ⟨w.heap.size,0,none⟩=some (.slice U1 m.uses.length u1)∧w'.cell? ⟨w.heap.size,1,none⟩=some (.slice T1 m.types.length e1)∧w'.cell? ⟨w.heap.size,2,none⟩=some (.slice T2 m.funcs.length e2)∧w'.cell? ⟨w.heap.size+1,0,none⟩=some (.slice T3 own.types.length e3)∧w'.cell? ⟨w.heap.size+1,1,none⟩=some (.slice T4 own.funcs.length e4)∧w'.cell? ⟨w.heap.size+1+1,4,none⟩=some (.slice (some ⟨b1,off,none⟩) args.length c)∧w'.cell? ⟨b1,off+jj*5,none⟩=some (.int .i64 a.kind)∧w'.cell? ⟨b1,off+jj*5+1,none⟩=some (.int .i64 a.n)∧w'.cell? ⟨b1,off+jj*5+2,none⟩=some (.string a.bT)∧w'.cell? ⟨b1,off+jj*5+3,none⟩=some (.string a.s)∧w'.cell? ⟨b1,off+jj*5+4,none⟩=some (.slice A2 a.args.length c2))
     (exact Ia.out _ (by first|exact bP.out|exact bP.out.alloc bP.out.size _|(go_grown;done)|exact(bP.out.alloc bP.out.size _).alloc (bP.out.alloc bP.out.size _).size _|exact bP.out.setCell (aJ _) _|exact(bP.out.setCell (aJ _) _).setCell (aJ _) _))
     ((go_at_call 104;(with_reducible refine(JR.out _ bP.out).mono ?_);rintro e w7 ⟨rfl,oZ⟩;have hb8:=aS bP.out oZ;have bP:=Lib.hid hb8;clear hb8 oZ))
    all_goals
     have sF:=hO.out.below aY.stays bP.out;have uG:=BW.out.trans (bP.out.mono BW.out.size);obtain⟨xJ,kG⟩:=aj sF uG;clear sF uG;go_wp2_with(at_builtin;go_must((refine bH aY.stays (.string ⟨#[]⟩) [.string T] T rfl rfl underlying23 (bytes:=16) (by kernel_rfl) xJ.out rfl rfl (by decide) rfl rfl (show aY w7 none_ _ _ from⟨rfl,Dn⟩) (aY.one (w:=w7) (F:=none_) _ _ ⟨rfl,Dn⟩) (fun k hk=>hk.elim) (by unfold maxLen;have:=JK.out;omega) (by have:=JK.out;omega) (by have:=kG.out.size;omega) ?_);(intro A6 c6 W6 mV hgr _;have hb6:=kG.out.trans (hgr.below (B:=W2.heap.size) (aJ _) kG.out.size);have uq:=Lib.hid mV;have kH:=Lib.hid hb6;clear mV hgr hb6)));go_roundg (args.length-(jj+1))
     case measure=>omega
     case rel=>
      refine⟨jj+1,c6,A6,L++ [T],by omega,by omega,by go_num,by simp,aside ?_,aside (fO (g:=fun a=>(f a).2) HX.out HZ.out hz.out),aside ?_,aside kH.out⟩
      ·rw[List.take_add_one,HX.out,List.map_append,hL.out];simp[HT.out]
      ·have h:=aZ.wider aY.stays uq.out (F':=none_) (fun k hk=>hk.elim id id) (fun k hk=>hk.elim);simpa using h
   ·have hzb:(z==0)=false:=by simp[hz0]
    have he:=HBAD.out jj a z HX.out HZ.out hz0 hz.out;subst he
    go_region_held3(fun w'=>w'.cell? ⟨w.heap.size,0,none⟩=some (.slice U1 m.uses.length u1)∧w'.cell? ⟨w.heap.size,1,none⟩=some (.slice T1 m.types.length e1)∧w'.cell? ⟨w.heap.size,2,none⟩=some (.slice T2 m.funcs.length e2)∧w'.cell? ⟨w.heap.size+1,0,none⟩=some (.slice T3 own.types.length e3)∧w'.cell? ⟨w.heap.size+1,1,none⟩=some (.slice T4 own.funcs.length e4)∧w'.cell? ⟨w.heap.size+1+1,4,none⟩=some (.slice (some ⟨b1,off,none⟩) args.length c)∧w'.cell? ⟨b1,off+jj*5,none⟩=some (.int .i64 a.kind)∧w'.cell? ⟨b1,off+jj*5+1,none⟩=some (.int .i64 a.n)∧w'.cell? ⟨b1,off+jj*5+2,none⟩=some (.string a.bT)∧w'.cell? ⟨b1,off+jj*5+3,none⟩=some (.string a.s)∧w'.cell? ⟨b1,off+jj*5+4,none⟩=some (.slice A2 a.args.length c2))
     (exact Ia.out _ (by first|exact bP.out|exact bP.out.alloc bP.out.size _|(go_grown;done)|exact(bP.out.alloc bP.out.size _).alloc (bP.out.alloc bP.out.size _).size _|exact bP.out.setCell (aJ _) _|exact(bP.out.setCell (aJ _) _).setCell (aJ _) _))
     ((go_at_call 104;(with_reducible refine(JR.out _ bP.out).mono ?_);rintro e w7 ⟨rfl,oZ⟩;have hb8:=aS bP.out oZ;have bP:=Lib.hid hb8;clear hb8 oZ))
    all_goals
     go_wp2_with fail
     go_ret2
     exact⟨rfl,aS zy.out bP.out⟩
  ·have hltz:¬(jj:Int)<(args.length:Int):=by omega
   obtain rfl:jj=args.length:=by omega
   obtain⟨W7,rfl⟩:∃W,W=wr:=⟨_,rfl⟩;have he:=jk.out hz.out;have hL2:L=args.map fun a=>(f a).1:=by rw[hL.out,List.take_length]
   have vG:L.length=args.length:=by rw[hL2,List.length_map]
   rw[←hL2]at he;have uF:∀s∈L,okS s:=fun s hs=>by rw[hL2]at hs;obtain⟨a,_,rfl⟩:=List.mem_map.1 hs;exact xH.out a
   have hsl:=hO.out.slice aY.stays (jZ:=16) (F':=old W7.heap.size) (fun k hk=>hk.elim) (fun k h1 h2=>h2) (by omega) (by omega);have hl0:0<L.length:=by have:=H2.out;omega
   obtain⟨b1,off,ds,hB,jc,hds,⟨rfl,_⟩,hcell⟩:=hsl.at_ (k:=0) hl0;have hp0:=hcell 0 _ rfl;simp only[Nat.zero_mul,Nat.add_zero]at hp0;subst hB;obtain⟨p,hpe⟩:∃z,L[0]=z:=⟨_,rfl⟩;have hn0:nth L 0=p:=by unfold nth;rw[List.getD_eq_getElem?_getD,aK hl0,hpe];rfl
   rw[hpe]at hp0;have hop:okS p:=uF p (by rw[←hpe];exact List.getElem_mem _);unfold oD at he;rw[hn0]at he;have hbl:b1<W7.heap.size:=jc;have hkl:=fun U=>E5 p U hop
   generalize jH p=R at hkl he;generalize kK p=z at hkl he;have hl0z:(0:Int)<(L.length:Int):=by omega
   have hL8:L.length≤8:=by omega
   have hcL:L.length≤c':=by
    obtain⟨A',c'',e,h1,h2,_⟩:=hsl;injection e with e1 e2 e3
    subst e3;exact h1
   obtain⟨HE,cO,HSL,HKL,XP,HLL⟩:=aA he hbw hsl hkl hp0 vG;clear he hbw hsl hkl hp0 vG;clear hcell hds hL2 uF hz hO hB1 hB2 hB3 hpe hn0 jc;go_wp2_with fail;go_loopg [23] L.length (fun gg s23 wr=>∃kk:Nat,kk≤L.length∧L.length-kk≤gg∧s23=.int .i64 kk∧Aside (∀j,j<kk→∀y,L[j]? =some y→iT y p=true)∧Aside (Below W7.heap.size W7 wr))
   case atStart=>exact⟨0,Nat.zero_le _,by omega,rfl,aside (fun j hj=>absurd hj (Nat.not_lt_zero _)),aside (Below.refl _ _)⟩
   case round=>
    obtain⟨kk,hkk,hg2,rfl,hal,BW2⟩:=hrel;have hbw2:=aS cO.out BW2.out
    by_cases hlt:kk<L.length
    ·have hltz:(kk:Int)<(L.length:Int):=by omega
     obtain⟨b2,off2,ds2,hB',KT,QV,⟨rfl,_⟩,hcell2⟩:=(HSL.out.up aY.stays eF BW2.out).at_ (k:=kk) hlt;have hq0:=hcell2 0 _ rfl;simp only[Nat.mul_one,Nat.add_zero]at hq0;injection hB' with hB'
     injection hB' with e1 e2
     subst e1;subst e2;have hp1:=(BW2.out.cell (p:=⟨b1,off,none⟩) hbl).trans XP.out;have hx:=aK hlt;generalize L[kk]=y at hx hq0;have HX:=ah hx;clear hx;clear hcell2 QV KT;cases h1:(y.toList==p.toList)with
     |false=>
      have hnot:¬(z=0∧L.all (fun t=>iT t p)=true):=fun h=>by
       have:=List.all_eq_true.1 h.2 y (List.mem_of_getElem? HX.out);unfold iT at this;rw[h1]at this;cases this
      have he:=HE.out;rw[if_neg hnot]at he;subst he;have rH:=ah hbw2;clear hbw2;go_upto_region 46 with fail
      go_quiet(fail);go_wp2_with fail
      go_ret2
      exact⟨rfl,below_drewN rH.out _⟩
     |true=>
      go_upto_region 46 with fail
      go_quiet(fail);go_wp2_with fail;go_roundg (L.length-(kk+1))
      case measure=>omega
      case rel=>
       have hlen:=HLL.out;refine⟨kk+1,by omega,by omega,by go_num,aside (fun j hj y' hy'=>?_),aside (below_drewN BW2.out _)⟩
       by_cases hjk:j=kk
       ·subst hjk;obtain rfl:y=y':=Option.some.inj (HX.out.symm.trans hy');exact h1
       ·exact hal.out j (by omega) y' hy'
    ·have hltz:¬(kk:Int)<(L.length:Int):=by omega
     obtain rfl:kk=L.length:=by omega
     have ZQ:L.all (fun t=>iT t p)=true:=List.all_eq_true.2 fun t ht=>by
      obtain⟨j,hj,rfl⟩:=List.mem_iff_getElem.1 ht;exact hal.out j hj _ (aK hj)
     have he:=HE.out;rw[ZQ]at he;have hp1:=(BW2.out.cell (p:=⟨b1,off,none⟩) hbl).trans XP.out;have rH:=ah hbw2;clear hbw2
     by_cases hz0:z=0
     ·rw[if_pos ⟨hz0,rfl⟩]at he;subst he;subst hz0;go_wp2_with fail;refine(HKL.out _).mono ?_;rintro e w' ⟨rfl,rfl⟩;go_wp2_with fail
      go_ret2
      exact⟨rfl,rH.out⟩
     ·rw[if_neg (fun h=>hz0 h.1)]at he;subst he;have hzb:(z==0)=false:=by simp[hz0]
      go_wp2_with fail;refine(HKL.out _).mono ?_;rintro e w' ⟨rfl,rfl⟩;go_wp2_with fail
      go_ret2
      exact⟨rfl,rH.out⟩
theorem afC(n:Nat)(f:Ex→ByteArray×Int)(m:Module)(l:List Import)(own:gU)(ps:List Known)(ih:JZ n f m l own ps)(hok:∀a,okS (f a).1)
  (v:Int) (o s:ByteArray) (args:List Ex) (h8:args.length≤8) (hall:∀a∈args,iE n a=0) (h2:args.length=2)
  (ms:List Value) (lv:Value) (os:List Value) (pv:Value) (A:Option Addr) (c:Nat) (F:aV) (w:World) (hF:∀k,F k→k<w.heap.size) (hm:aN w F ms m) (hl:SliceOf aU 4 72 w F lv l) (ho:bD w F os own) (hp:SliceOf aW 2 32 w F pv ps)
  (hA:SliceOf dN 5 72 w F (.slice A args.length c) args):
  Calls prog 104 #[.agg ms.toArray,lv,.agg os.toArray,pv,.agg #[.int .i64 7,.int .i64 v,.string o,.string s,.slice A args.length c]] w fun e w'=>
   e=.returned (.tuple #[.string (gB f atR args).1,.int .i64 (gB f atR args).2])∧Below w.heap.size w w':=by
 have hrec:=fun a (ha:a∈args) ds U (hU:Below w.heap.size w U) (hr:dN U F ds a)=>ih a ms lv os pv ds F U (hall a ha) (bg hF hU) (aN.stays.later hm hU hF) (hl.up aU.stays hF hU) (bD.stays.later ho hU hF) (hp.up aW.stays hF hU) hr
 obtain⟨U1,u1,T1,e1,T2,e2,rfl,_⟩:=aN.form hm;obtain⟨L1,l1,rfl,_⟩:=hl.form;obtain⟨T3,e3,T4,e4,rfl⟩:=bD.form ho;obtain⟨P1,p1,rfl,_⟩:=hp.form;have hAc:args.length≤c∧c≤9223372036854775807:=by
  obtain⟨A',c',e,h1,h2,_⟩:=hA;injection e with e1 e2 e3
  subst e3;exact⟨h1,by unfold maxLen at h2;omega⟩
 have hbad:=fun(k:Nat) (a:Ex) (z:Int)=>mg (f:=f) (fin:=atR) (args:=args) (k:=k) (a:=a) (z:=z)
 have hgood:=kS (f:=f) (fin:=atR) (args:=args);generalize gB f atR args=E at hbad hgood⊢;obtain⟨H2,xK,HA,HBAD,jk,xH⟩:=aA h2 hrec hA hbad hgood hok;clear h2 hrec hA hbad hgood hok;clear hm hl ho hp ih hall;go_enter func104,ntmps104;go_upto_region 1 with fail
 have dX:=(((Box.made w 27 #[.slice U1 m.uses.length u1,.slice T1 m.types.length e1,.slice T2 m.funcs.length e2]).alloc (.cells #[.slice T3 own.types.length e3,.slice T4 own.funcs.length e4] 42)).alloc (.cells #[.int .i64 7,.int .i64 v,.string o,.string s,.slice A args.length c] 81));have dM:=((Box.made (w.alloc (.cells #[.slice U1 m.uses.length u1,.slice T1 m.types.length e1,.slice T2 m.funcs.length e2] 27)) 42 #[.slice T3 own.types.length e3,.slice T4 own.funcs.length e4]).alloc (.cells #[.int .i64 7,.int .i64 v,.string o,.string s,.slice A args.length c] 81));rw[show(w.alloc (.cells #[.slice U1 m.uses.length u1,.slice T1 m.types.length e1,.slice T2 m.funcs.length e2] 27)).heap.size=w.heap.size+1 by simp only[World.size_alloc]]at dM;have fE:=(Box.made ((w.alloc (.cells #[.slice U1 m.uses.length u1,.slice T1 m.types.length e1,.slice T2 m.funcs.length e2] 27)).alloc (.cells #[.slice T3 own.types.length e3,.slice T4 own.funcs.length e4] 42)) 81 #[.int .i64 7,.int .i64 v,.string o,.string s,.slice A args.length c]);rw[show((w.alloc (.cells #[.slice U1 m.uses.length u1,.slice T1 m.types.length e1,.slice T2 m.funcs.length e2] 27)).alloc (.cells #[.slice T3 own.types.length e3,.slice T4 own.funcs.length e4] 42)).heap.size=w.heap.size+1+1 by simp only[World.size_alloc]]at fE;have hbb:Below w.heap.size w (((w.alloc (.cells #[.slice U1 m.uses.length u1,.slice T1 m.types.length e1,.slice T2 m.funcs.length e2] 27)).alloc (.cells #[.slice T3 own.types.length e3,.slice T4 own.funcs.length e4] 42)).alloc (.cells #[.int .i64 7,.int .i64 v,.string o,.string s,.slice A args.length c] 81)):=by go_grown
 have hzb:(((w.alloc (.cells #[.slice U1 m.uses.length u1,.slice T1 m.types.length e1,.slice T2 m.funcs.length e2] 27)).alloc (.cells #[.slice T3 own.types.length e3,.slice T4 own.funcs.length e4] 42)).alloc (.cells #[.int .i64 7,.int .i64 v,.string o,.string s,.slice A args.length c] 81)).heap.size=w.heap.size+1+1+1:=by simp only[World.size_alloc]
 generalize((w.alloc (.cells #[.slice U1 m.uses.length u1,.slice T1 m.types.length e1,.slice T2 m.funcs.length e2] 27)).alloc (.cells #[.slice T3 own.types.length e3,.slice T4 own.funcs.length e4] 42)).alloc (.cells #[.int .i64 7,.int .i64 v,.string o,.string s,.slice A args.length c] 81)=W1 at dX dM fE hbb hzb⊢;have x0:=fE.at_ 0 _ rfl;have x4:=fE.at_ 4 _ rfl;go_upto_region 14 with fail
 have hBg:=Box.made W1 62 #[.string ⟨#[]⟩,.slice none 0 0,.string ⟨#[]⟩];have hbg:Below W1.heap.size W1 (W1.alloc (.cells #[.string ⟨#[]⟩,.slice none 0 0,.string ⟨#[]⟩] 62)):=by go_grown
 have hzg:(W1.alloc (.cells #[.string ⟨#[]⟩,.slice none 0 0,.string ⟨#[]⟩] 62)).heap.size=W1.heap.size+1:=by simp
 generalize W1.alloc (.cells #[.string ⟨#[]⟩,.slice none 0 0,.string ⟨#[]⟩] 62)=W2 at hBg hbg hzg⊢;have hB1:=dX.later hbg dX.lt;have hB2:=dM.later hbg dM.lt;have hB3:=fE.later hbg fE.lt;have hb2:=hbb.trans (hbg.mono hbb.size);clear x0 x4;have x0:=hB3.at_ 0 _ rfl;have x4:=hB3.at_ 4 _ rfl;obtain⟨HB1,HB2,HB3,rH⟩:=au hB1 hB2 hB3 hb2;clear hB1 hB2 hB3 hb2;clear dX dM fE hbb hzb hBg hbg hzg;go_wp2_with fail;go_loopg [17,18,19,20] args.length (fun gg s17 s18 _ _ wr=>∃(jj c:Nat) (B:Option Addr) (L:List ByteArray),jj≤args.length∧args.length-jj≤gg∧s18=.int .i64 jj∧s17=.slice B L.length c∧Aside (L=(args.take jj).map fun a=>(f a).1)∧Aside (∀j,j<jj→∀y,args[j]? =some y→(f y).2=0)∧
  Aside (aZ aY 1 9 W2.heap.size wr none_ (.slice B L.length c) L)∧Aside (Below W2.heap.size W2 wr))
 case atStart=>exact⟨0,0,none,[],Nat.zero_le _,by omega,rfl,rfl,aside rfl,aside (fun j hj=>absurd hj (Nat.not_lt_zero _)),aside aZ.nil_,aside (Below.refl _ _)⟩
 case round=>
  obtain⟨jj,c',B,L,hjj,hg,rfl,rfl,hL,hz,hO,BW⟩:=hrel;have hbw:=rH.out.trans (BW.out.mono rH.out.size);have hB1:=HB1.out.later BW.out HB1.out.lt;have hB2:=HB2.out.later BW.out HB2.out.lt;have hB3:=HB3.out.later BW.out HB3.out.lt;clear x0 x4;have x0:=hB3.at_ 0 _ rfl;have x4:=hB3.at_ 4 _ rfl
  by_cases hlt:jj<args.length
  ·have hltz:(jj:Int)<(args.length:Int):=by omega
   have vG:L.length=jj:=by rw[hL.out];simp;omega
   obtain⟨b1,off,ds,rfl,jc,hds,hr,hcell⟩:=(HA.out.up dN.stays hF hbw).at_ (k:=jj) hlt;have hx:=aK hlt;have hxm:=List.getElem_mem hlt;generalize args[jj]=a at hx hxm hr;obtain⟨A2,c2,rfl⟩:=dN.form hr;have hc0:=hcell 0 _ rfl;have hc1:=hcell 1 _ rfl;have hc2:=hcell 2 _ rfl;have hc3:=hcell 3 _ rfl;have hc4:=hcell 4 _ rfl;simp only[Nat.add_zero]at hc0;have hbl:b1<wr.heap.size:=bg hF hbw _ jc;have hrc:=fun U (hU:Below wr.heap.size wr U)=>xK.out a hxm _ U (aS hbw hU) (dN.stays.later hr hU (bg hF hbw))
   have Dn:=xH.out a;obtain⟨T,hT⟩:∃z,(f a).1=z:=⟨_,rfl⟩;obtain⟨z,hzz⟩:∃z,(f a).2=z:=⟨_,rfl⟩;rw[hT,hzz]at hrc;rw[hT]at Dn;have y0:=hB1.at_ 0 _ rfl;have y1:=hB1.at_ 1 _ rfl;have y2:=hB1.at_ 2 _ rfl;have q0:=hB2.at_ 0 _ rfl;have q1:=hB2.at_ 1 _ rfl;have YF:=hB1.lt;have l2':=hB2.lt;have l3':=hB3.lt;have hdr:Below wr.heap.size wr wr.drew:=by go_grown
   have Ia:=Lib.hid (show ∀w',Below wr.heap.size wr w'→(w'.cell? ⟨w.heap.size,0,none⟩=some (.slice U1 m.uses.length u1)∧w'.cell? ⟨w.heap.size,1,none⟩=some (.slice T1 m.types.length e1)∧w'.cell? ⟨w.heap.size,2,none⟩=some (.slice T2 m.funcs.length e2)∧w'.cell? ⟨w.heap.size+1,0,none⟩=some (.slice T3 own.types.length e3)∧w'.cell? ⟨w.heap.size+1,1,none⟩=some (.slice T4 own.funcs.length e4)∧w'.cell? ⟨w.heap.size+1+1,4,none⟩=some (.slice (some ⟨b1,off,none⟩) args.length c)∧w'.cell? ⟨b1,off+jj*5,none⟩=some (.int .i64 a.kind)∧w'.cell? ⟨b1,off+jj*5+1,none⟩=some (.int .i64 a.n)∧w'.cell? ⟨b1,off+jj*5+2,none⟩=some (.string a.bT)∧w'.cell? ⟨b1,off+jj*5+3,none⟩=some (.string a.s)∧w'.cell? ⟨b1,off+jj*5+4,none⟩=some (.slice A2 a.args.length c2))from fun w' h=>⟨(h.cell (p:=⟨w.heap.size,0,none⟩) YF).trans y0,(h.cell (p:=⟨w.heap.size,1,none⟩) YF).trans y1,(h.cell (p:=⟨w.heap.size,2,none⟩) YF).trans y2,(h.cell (p:=⟨w.heap.size+1,0,none⟩) l2').trans q0,(h.cell (p:=⟨w.heap.size+1,1,none⟩) l2').trans q1,(h.cell (p:=⟨w.heap.size+1+1,4,none⟩) l3').trans x4,(h.cell (p:=⟨b1,off+jj*5,none⟩) hbl).trans hc0,(h.cell (p:=⟨b1,off+jj*5+1,none⟩) hbl).trans hc1,(h.cell (p:=⟨b1,off+jj*5+2,none⟩) hbl).trans hc2,(h.cell (p:=⟨b1,off+jj*5+3,none⟩) hbl).trans hc3,(h.cell (p:=⟨b1,off+jj*5+4,none⟩) hbl).trans hc4⟩);obtain⟨HX,JR,HT,HZ,bP,zy,JK⟩:=aB hx hrc hT hzz hdr hbw vG;clear hx hrc hT hzz hdr hbw vG;go_upto_region 28 with fail
   clear hcell hds hr hxm hB1 hB2 hB3 jc y0 y1 y2 q0 q1 x0 x4 hc0 hc1 hc2 hc3 hc4
   by_cases hz0:z=0
   ·subst hz0
    go_region_held3(fun w'=>w'.cell? ⟨w.heap.size,0,none⟩=some (.slice U1 m.uses.length u1)∧w'.cell? ⟨w.heap.size,1,none⟩=some (.slice T1 m.types.length e1)∧w'.cell? ⟨w.heap.size,2,none⟩=some (.slice T2 m.funcs.length e2)∧w'.cell? ⟨w.heap.size+1,0,none⟩=some (.slice T3 own.types.length e3)∧w'.cell? ⟨w.heap.size+1,1,none⟩=some (.slice T4 own.funcs.length e4)∧w'.cell? ⟨w.heap.size+1+1,4,none⟩=some (.slice (some ⟨b1,off,none⟩) args.length c)∧w'.cell? ⟨b1,off+jj*5,none⟩=some (.int .i64 a.kind)∧w'.cell? ⟨b1,off+jj*5+1,none⟩=some (.int .i64 a.n)∧w'.cell? ⟨b1,off+jj*5+2,none⟩=some (.string a.bT)∧w'.cell? ⟨b1,off+jj*5+3,none⟩=some (.string a.s)∧w'.cell? ⟨b1,off+jj*5+4,none⟩=some (.slice A2 a.args.length c2))
     (exact Ia.out _ (by first|exact bP.out|exact bP.out.alloc bP.out.size _|(go_grown;done)|exact(bP.out.alloc bP.out.size _).alloc (bP.out.alloc bP.out.size _).size _|exact bP.out.setCell (aJ _) _|exact(bP.out.setCell (aJ _) _).setCell (aJ _) _))
     ((go_at_call 104;(with_reducible refine(JR.out _ bP.out).mono ?_);rintro e w7 ⟨rfl,oZ⟩;have hb8:=aS bP.out oZ;have bP:=Lib.hid hb8;clear hb8 oZ))
    all_goals
     have sF:=hO.out.below aY.stays bP.out;have uG:=BW.out.trans (bP.out.mono BW.out.size);obtain⟨xJ,kG⟩:=aj sF uG;clear sF uG;go_wp2_with(at_builtin;go_must((refine bH aY.stays (.string ⟨#[]⟩) [.string T] T rfl rfl underlying23 (bytes:=16) (by kernel_rfl) xJ.out rfl rfl (by decide) rfl rfl (show aY w7 none_ _ _ from⟨rfl,Dn⟩) (aY.one (w:=w7) (F:=none_) _ _ ⟨rfl,Dn⟩) (fun k hk=>hk.elim) (by unfold maxLen;have:=JK.out;omega) (by have:=JK.out;omega) (by have:=kG.out.size;omega) ?_);(intro A6 c6 W6 mV hgr _;have hb6:=kG.out.trans (hgr.below (B:=W2.heap.size) (aJ _) kG.out.size);have uq:=Lib.hid mV;have kH:=Lib.hid hb6;clear mV hgr hb6)));go_roundg (args.length-(jj+1))
     case measure=>omega
     case rel=>
      refine⟨jj+1,c6,A6,L++ [T],by omega,by omega,by go_num,by simp,aside ?_,aside (fO (g:=fun a=>(f a).2) HX.out HZ.out hz.out),aside ?_,aside kH.out⟩
      ·rw[List.take_add_one,HX.out,List.map_append,hL.out];simp[HT.out]
      ·have h:=aZ.wider aY.stays uq.out (F':=none_) (fun k hk=>hk.elim id id) (fun k hk=>hk.elim);simpa using h
   ·have hzb:(z==0)=false:=by simp[hz0]
    have he:=HBAD.out jj a z HX.out HZ.out hz0 hz.out;subst he
    go_region_held3(fun w'=>w'.cell? ⟨w.heap.size,0,none⟩=some (.slice U1 m.uses.length u1)∧w'.cell? ⟨w.heap.size,1,none⟩=some (.slice T1 m.types.length e1)∧w'.cell? ⟨w.heap.size,2,none⟩=some (.slice T2 m.funcs.length e2)∧w'.cell? ⟨w.heap.size+1,0,none⟩=some (.slice T3 own.types.length e3)∧w'.cell? ⟨w.heap.size+1,1,none⟩=some (.slice T4 own.funcs.length e4)∧w'.cell? ⟨w.heap.size+1+1,4,none⟩=some (.slice (some ⟨b1,off,none⟩) args.length c)∧w'.cell? ⟨b1,off+jj*5,none⟩=some (.int .i64 a.kind)∧w'.cell? ⟨b1,off+jj*5+1,none⟩=some (.int .i64 a.n)∧w'.cell? ⟨b1,off+jj*5+2,none⟩=some (.string a.bT)∧w'.cell? ⟨b1,off+jj*5+3,none⟩=some (.string a.s)∧w'.cell? ⟨b1,off+jj*5+4,none⟩=some (.slice A2 a.args.length c2))
     (exact Ia.out _ (by first|exact bP.out|exact bP.out.alloc bP.out.size _|(go_grown;done)|exact(bP.out.alloc bP.out.size _).alloc (bP.out.alloc bP.out.size _).size _|exact bP.out.setCell (aJ _) _|exact(bP.out.setCell (aJ _) _).setCell (aJ _) _))
     ((go_at_call 104;(with_reducible refine(JR.out _ bP.out).mono ?_);rintro e w7 ⟨rfl,oZ⟩;have hb8:=aS bP.out oZ;have bP:=Lib.hid hb8;clear hb8 oZ))
    all_goals
     go_wp2_with fail
     go_ret2
     exact⟨rfl,aS zy.out bP.out⟩
  ·have hltz:¬(jj:Int)<(args.length:Int):=by omega
   obtain rfl:jj=args.length:=by omega
   obtain⟨W7,rfl⟩:∃W,W=wr:=⟨_,rfl⟩;have he:=jk.out hz.out;have hL2:L=args.map fun a=>(f a).1:=by rw[hL.out,List.take_length]
   have vG:L.length=args.length:=by rw[hL2,List.length_map]
   rw[←hL2]at he;have uF:∀s∈L,okS s:=fun s hs=>by rw[hL2]at hs;obtain⟨a,_,rfl⟩:=List.mem_map.1 hs;exact xH.out a
   have hsl:=hO.out.slice aY.stays (jZ:=16) (F':=old W7.heap.size) (fun k hk=>hk.elim) (fun k h1 h2=>h2) (by omega) (by omega);obtain⟨p,q,rfl⟩:=SL (vG.trans H2.out);have hop:=uF p (by simp);have hoq:=uF q (by simp);obtain⟨b1,off,ds,hB,jc,hds,⟨rfl,_⟩,hcell⟩:=hsl.at_ (k:=0) (by simp);have hp0:=hcell 0 _ rfl;obtain⟨b2,off2,ds2,hB',KT,QV,⟨rfl,_⟩,hcell2⟩:=hsl.at_ (k:=1) (by simp);have hq0:=hcell2 0 _ rfl;subst hB;injection hB' with hB'
   injection hB' with e1 e2
   subst e1;subst e2;simp only[Nat.zero_mul,Nat.one_mul,Nat.add_zero,List.getElem_cons_zero,List.getElem_cons_succ]at hp0 hq0;obtain⟨HE,cO⟩:=aj he hbw;clear he hbw;clear hcell hcell2 hds QV hsl hL2 vG uF hz hO hB1 hB2 hB3;have hel:=fun U=>xQ p U hop
   have he:E=if(elemOf p).isSome=true∧(q.toList== [105,110,116])=true then((elemOf p).getD ⟨#[]⟩,0)else(⟨#[]⟩,8):=by rw[HE.out];unfold atR nth iT;rw[Bj];rfl
   simp only[List.length_cons,List.length_nil,Nat.zero_add]at*;generalize(elemOf p).getD ⟨#[]⟩=R at hel he;generalize(elemOf p).isSome=z1 at hel he;have HEL:=ah hel;clear hel;cases z1;all_goals cases h3:(q.toList== [105,110,116])
   all_goals
    have hE2:=he;rw[h3]at hE2;simp at hE2;subst hE2;clear he;go_wp2_with fail;refine(HEL.out _).mono ?_;rintro e w' ⟨rfl,rfl⟩;go_wp2_with fail
    go_ret2
    exact⟨rfl,cO.out⟩
theorem abn(n:Nat)(f:Ex→ByteArray×Int)(m:Module)(l:List Import)(own:gU)(ps:List Known)(ih:JZ n f m l own ps)(hok:∀a,okS (f a).1)
  (v:Int) (o s:ByteArray) (args:List Ex) (h8:args.length≤8) (hall:∀a∈args,iE n a=0)
  (ms:List Value) (lv:Value) (os:List Value) (pv:Value) (A:Option Addr) (c:Nat) (F:aV) (w:World) (hF:∀k,F k→k<w.heap.size) (hm:aN w F ms m) (hl:SliceOf aU 4 72 w F lv l) (ho:bD w F os own) (hp:SliceOf aW 2 32 w F pv ps)
  (hA:SliceOf dN 5 72 w F (.slice A args.length c) args) (E:ByteArray×Int)
  (hE:E=if jR (eU m l own o).funcs s≠0 then(⟨#[]⟩,6)else if(kW (eU m l own o).funcs s).params.length≠args.length then(⟨#[]⟩,7)else gB f (yE (kW (eU m l own o).funcs s)) args):
  Calls prog 104 #[.agg ms.toArray,lv,.agg os.toArray,pv,.agg #[.int .i64 4,.int .i64 v,.string o,.string s,.slice A args.length c]] w fun e w'=>
   e=.returned (.tuple #[.string E.1,.int .i64 E.2])∧Below w.heap.size w w':=by
 have hrec:=fun a (ha:a∈args) ds U (hU:Below w.heap.size w U) (hr:dN U F ds a)=>ih a ms lv os pv ds F U (hall a ha) (bg hF hU) (aN.stays.later hm hU hF) (hl.up aU.stays hF hU) (bD.stays.later ho hU hF) (hp.up aW.stays hF hU) hr
 have hfo:=fun U (hU:Below w.heap.size w U)=>Dc m l o ms lv F F U (bg hF hU) (bg hF hU) (aN.stays.later hm hU hF) (hl.up aU.stays hF hU)
 have hX0:=Kq (m:=m) (l:=l) (own:=own) (o:=o);have hX1:=Ih (m:=m) (l:=l) (own:=own) (o:=o);generalize eU m l own o=X at hE hX0 hX1;obtain⟨U1,u1,T1,e1,T2,e2,rfl,_⟩:=aN.form hm;obtain⟨L1,l1,rfl,_⟩:=hl.form;obtain⟨T3,e3,T4,e4,rfl⟩:=bD.form ho;obtain⟨P1,p1,rfl,_⟩:=hp.form;have hAc:args.length≤c∧c≤9223372036854775807:=by
  obtain⟨A',c',e,h1,h2,_⟩:=hA;injection e with e1 e2 e3
  subst e3;exact⟨h1,by unfold maxLen at h2;omega⟩
 have hfi:=fun(U:World) (cs:List Value) (hU:Below w.heap.size w U) (hr:bD U F cs X)=>Yh X s cs F U (bg hF hU) hr
 generalize ku m l o=zf at hfo;obtain⟨z0,hz0⟩:∃z,jR X.funcs s=z:=⟨_,rfl⟩;obtain⟨S,hS⟩:∃z,kW X.funcs s=z:=⟨_,rfl⟩;rw[hz0,hS]at hfi hE;have hbad:=fun(k:Nat) (a:Ex) (z:Int)=>mg (f:=f) (fin:=yE S) (args:=args) (k:=k) (a:=a) (z:=z)
 have hgood:=kS (f:=f) (fin:=yE S) (args:=args);obtain⟨zo,Iu⟩:∃z,o.toList.isEmpty=z:=⟨_,rfl⟩;obtain⟨xK,HA,HBAD,jk,xH,HFO,HFI,HX0,HX1,HE,HO⟩:=aH hrec hA hbad hgood hok hfo hfi hX0 hX1 hE ho;clear hrec hA hbad hgood hok hfo hfi hX0 hX1 hE ho;clear hm hl hp ih hall hz0 hS;go_enter func104,ntmps104;go_upto_region 1 with fail
 have dX:=(((Box.made w 27 #[.slice U1 m.uses.length u1,.slice T1 m.types.length e1,.slice T2 m.funcs.length e2]).alloc (.cells #[.slice T3 own.types.length e3,.slice T4 own.funcs.length e4] 42)).alloc (.cells #[.int .i64 4,.int .i64 v,.string o,.string s,.slice A args.length c] 81));have dM:=((Box.made (w.alloc (.cells #[.slice U1 m.uses.length u1,.slice T1 m.types.length e1,.slice T2 m.funcs.length e2] 27)) 42 #[.slice T3 own.types.length e3,.slice T4 own.funcs.length e4]).alloc (.cells #[.int .i64 4,.int .i64 v,.string o,.string s,.slice A args.length c] 81));rw[show(w.alloc (.cells #[.slice U1 m.uses.length u1,.slice T1 m.types.length e1,.slice T2 m.funcs.length e2] 27)).heap.size=w.heap.size+1 by simp only[World.size_alloc]]at dM;have fE:=(Box.made ((w.alloc (.cells #[.slice U1 m.uses.length u1,.slice T1 m.types.length e1,.slice T2 m.funcs.length e2] 27)).alloc (.cells #[.slice T3 own.types.length e3,.slice T4 own.funcs.length e4] 42)) 81 #[.int .i64 4,.int .i64 v,.string o,.string s,.slice A args.length c]);rw[show((w.alloc (.cells #[.slice U1 m.uses.length u1,.slice T1 m.types.length e1,.slice T2 m.funcs.length e2] 27)).alloc (.cells #[.slice T3 own.types.length e3,.slice T4 own.funcs.length e4] 42)).heap.size=w.heap.size+1+1 by simp only[World.size_alloc]]at fE;have hbb:Below w.heap.size w (((w.alloc (.cells #[.slice U1 m.uses.length u1,.slice T1 m.types.length e1,.slice T2 m.funcs.length e2] 27)).alloc (.cells #[.slice T3 own.types.length e3,.slice T4 own.funcs.length e4] 42)).alloc (.cells #[.int .i64 4,.int .i64 v,.string o,.string s,.slice A args.length c] 81)):=by go_grown
 have hzb:(((w.alloc (.cells #[.slice U1 m.uses.length u1,.slice T1 m.types.length e1,.slice T2 m.funcs.length e2] 27)).alloc (.cells #[.slice T3 own.types.length e3,.slice T4 own.funcs.length e4] 42)).alloc (.cells #[.int .i64 4,.int .i64 v,.string o,.string s,.slice A args.length c] 81)).heap.size=w.heap.size+1+1+1:=by simp only[World.size_alloc]
 generalize((w.alloc (.cells #[.slice U1 m.uses.length u1,.slice T1 m.types.length e1,.slice T2 m.funcs.length e2] 27)).alloc (.cells #[.slice T3 own.types.length e3,.slice T4 own.funcs.length e4] 42)).alloc (.cells #[.int .i64 4,.int .i64 v,.string o,.string s,.slice A args.length c] 81)=W1 at dX dM fE hbb hzb⊢;have x0:=fE.at_ 0 _ rfl;have x2:=fE.at_ 2 _ rfl;have q0:=dM.at_ 0 _ rfl;have q1:=dM.at_ 1 _ rfl;go_upto_region 14 with fail
 have hBg:=Box.made W1 62 #[.string ⟨#[]⟩,.slice none 0 0,.string ⟨#[]⟩];have hbg:Below W1.heap.size W1 (W1.alloc (.cells #[.string ⟨#[]⟩,.slice none 0 0,.string ⟨#[]⟩] 62)):=by go_grown
 have hzg:(W1.alloc (.cells #[.string ⟨#[]⟩,.slice none 0 0,.string ⟨#[]⟩] 62)).heap.size=W1.heap.size+1:=by simp
 generalize W1.alloc (.cells #[.string ⟨#[]⟩,.slice none 0 0,.string ⟨#[]⟩] 62)=V2 at hBg hbg hzg⊢;have hB1:=dX.later hbg dX.lt;have hB2:=dM.later hbg dM.lt;have hB3:=fE.later hbg fE.lt;have hb2:=hbb.trans (hbg.mono hbb.size);clear x0 x2 q0 q1;have x0:=hB3.at_ 0 _ rfl;have x2:=hB3.at_ 2 _ rfl;have q0:=hB2.at_ 0 _ rfl;have q1:=hB2.at_ 1 _ rfl;obtain⟨HV1,HV2,HV3,HVG,aat⟩:=ay hB1 hB2 hB3 hBg hb2;clear hB1 hB2 hB3 hBg hb2;have hB1:=HV1.out;have hB2:=HV2.out;have hB3:=HV3.out;have hBg:=HVG.out;have hb2:=aat.out;have hz3:W1.heap.size=w.heap.size+1+1+1:=hzb;have HZ3:=ah hz3;clear hz3;go_upto_region 16 with fail
 have hBj:=Box.made V2 42 #[.slice T3 own.types.length e3,.slice T4 own.funcs.length e4];have hbj:Below V2.heap.size V2 (V2.alloc (.cells #[.slice T3 own.types.length e3,.slice T4 own.funcs.length e4] 42)):=by go_grown
 have hzj:(V2.alloc (.cells #[.slice T3 own.types.length e3,.slice T4 own.funcs.length e4] 42)).heap.size=V2.heap.size+1:=by simp
 generalize V2.alloc (.cells #[.slice T3 own.types.length e3,.slice T4 own.funcs.length e4] 42)=V3 at hBj hbj hzj⊢;have hB1:=hB1.later hbj hB1.lt;have hB2:=hB2.later hbj hB2.lt;have hB3:=hB3.later hbj hB3.lt;have hBg:=hBg.later hbj hBg.lt;have hb3:=hb2.trans (hbj.mono hb2.size);clear x0 x2 q0 q1 dX dM fE;have x2:=hB3.at_ 2 _ rfl;have y0:=hB1.at_ 0 _ rfl;have y1:=hB1.at_ 1 _ rfl;have y2:=hB1.at_ 2 _ rfl;have Ir:V2.heap.size=w.heap.size+1+1+1+1:=by rw[hzg,hzb]
 have hn2:=hb2.size;rw[Ir]at hBj;rw[hzb]at hBg;obtain⟨HZ4,HB1,HB2,HB3,HBG,HBJ,fV,NC,HN2⟩:=aF Ir hB1 hB2 hB3 hBg hBj hb3 hbj hn2;clear Ir hB1 hB2 hB3 hBg hBj hb3 hbj hn2;clear hbb hzb hzg hzj hbg hb2;go_upto_if 62 with (fail)
 go_cut [] (fun wc=>∃T5 e5 T6 e6,Aside (Box wc (w.heap.size+1+1+1+1) 42 #[.slice T5 X.types.length e5,.slice T6 X.funcs.length e6])∧Aside (bD wc F [.slice T5 X.types.length e5,.slice T6 X.funcs.length e6] X)∧Aside (Below V2.heap.size V2 wc))
 case first=>
  cases zo with
  |true=>
   have he:=HX0.out Iu;subst he;go_wp2_with fail;go_meet;exact⟨_,_,_,_,aside HBJ.out,aside (bD.stays.later HO.out fV.out hF),aside NC.out⟩
  |false=>
   have he:=HX1.out Iu;go_wp2_with fail;refine(HFO.out _ fV.out).mono ?_;rintro e W4 ⟨ds,rfl,hb4,hfr⟩;rw[←he]at hfr;clear he;obtain⟨T5,e5,T6,e6,rfl⟩:=bD.form hfr;have aa4:=HBJ.out.later hb4 HBJ.out.lt;have g0:=aa4.free 0;have g1:=aa4.free 1;have r0:=aa4.at_ 0 _ rfl;have r1:=aa4.at_ 1 _ rfl;have akG:=NC.out.trans (hb4.mono NC.out.size);have hno:¬F (w.heap.size+1+1+1+1):=fun h=>by have:=hF _ h;omega
   have hBX:Box ((W4.setCell ⟨w.heap.size+1+1+1+1,0,none⟩ (.slice T5 X.types.length e5)).setCell ⟨w.heap.size+1+1+1+1,1,none⟩ (.slice T6 X.funcs.length e6)) (w.heap.size+1+1+1+1) 42 #[.slice T5 X.types.length e5,.slice T6 X.funcs.length e6]:=(aa4.put 0 _).put 1 _;have hFX:=bD.stays.set (p:=⟨w.heap.size+1+1+1+1,1,none⟩) (bD.stays.set (p:=⟨w.heap.size+1+1+1+1,0,none⟩) hfr hno (.slice T5 X.types.length e5)) hno (.slice T6 X.funcs.length e6);have hbX:=(akG.setCell (p:=⟨w.heap.size+1+1+1+1,0,none⟩) (Nat.le_of_eq HZ4.out) (.slice T5 X.types.length e5)).setCell (p:=⟨w.heap.size+1+1+1+1,1,none⟩) (Nat.le_of_eq HZ4.out) (.slice T6 X.funcs.length e6);obtain⟨oq,HFX,HbX⟩:=ak hBX hFX hbX;clear hBX hFX hbX;clear hfr hb4 aa4 akG y0 y1 y2 x2;go_wp2_with fail;go_meet;exact⟨_,_,_,_,aside oq.out,aside HFX.out,aside HbX.out⟩
 case rest=>
 obtain⟨T5,e5,T6,e6,hBX,hFX,hbX⟩:=hcut;obtain⟨W4,rfl⟩:∃W,W=wc:=⟨_,rfl⟩;have hb4:=aat.out.trans (hbX.out.mono aat.out.size);have hB1:=HV1.out.later hbX.out HV1.out.lt;have hB2:=HV2.out.later hbX.out HV2.out.lt;have hB3:=HV3.out.later hbX.out HV3.out.lt;have hBg:=HVG.out.later hbX.out HVG.out.lt;rw[HZ3.out]at hBg;have Yk:=hBX.out;have r0:=Yk.at_ 0 _ rfl;have r1:=Yk.at_ 1 _ rfl;clear x2 y0 y1 y2;have x3:=hB3.at_ 3 _ rfl;have hfi:=HFI.out W4 _ hb4 hFX.out;obtain⟨ag0,HB1,HB2,HB3,HBG,pY⟩:=aA hfi hB1 hB2 hB3 hBg hb4;clear hfi hB1 hB2 hB3 hBg hb4;clear hBX hFX hbX Yk;go_wp2_with fail;refine(ag0.out).mono ?_;rintro e W5 ⟨ds,rfl,hb5,hSr⟩;obtain⟨pv,rfl,hSn,UC,hSp⟩:=hSr;obtain⟨A7,c7,rfl,_,_,hSl,_⟩:=hSp.form;have hB1:=HB1.out.later hb5 HB1.out.lt;have hB2:=HB2.out.later hb5 HB2.out.lt;have hB3:=HB3.out.later hb5 HB3.out.lt;have hBg:=HBG.out.later hb5 HBG.out.lt;have adF:=aS pY.out hb5;obtain⟨HB1,HB2,HB3,HBG,oh,HSP⟩:=aA hB1 hB2 hB3 hBg adF hSp;clear hB1 hB2 hB3 hBg adF hSp;clear hb5 r0 r1 x3;go_upto_region 19 with fail
 have Px:=Box.made W5 62 #[.string S.name,.slice A7 S.params.length c7,.string S.result];have hbk:Below W5.heap.size W5 (W5.alloc (.cells #[.string S.name,.slice A7 S.params.length c7,.string S.result] 62)):=by go_grown
 have hzk:(W5.alloc (.cells #[.string S.name,.slice A7 S.params.length c7,.string S.result] 62)).heap.size=W5.heap.size+1:=by simp
 generalize W5.alloc (.cells #[.string S.name,.slice A7 S.params.length c7,.string S.result] 62)=W6 at Px hbk hzk⊢;have hB1:=HB1.out.later hbk HB1.out.lt;have hB2:=HB2.out.later hbk HB2.out.lt;have hB3:=HB3.out.later hbk HB3.out.lt;have hBg:=HBG.out.later hbk HBG.out.lt;have hb6:=aS oh.out hbk;have hE:=HE.out
 by_cases hz0:z0=0
 ·subst hz0;rw[if_neg (by simp)]at hE;have k0:=Px.at_ 0 _ rfl;have k1:=Px.at_ 1 _ rfl;have k2:=Px.at_ 2 _ rfl;have x4:=hB3.at_ 4 _ rfl
  by_cases hcnt:S.params.length=args.length
  ·rw[if_neg (by simp[hcnt])]at hE;have hcz:((S.params.length:Int)==(args.length:Int))=true:=by simp[hcnt]
   have hcn:((S.params.length:Int)!=(args.length:Int))=false:=by simp[hcnt]
   have aav:=ah hcnt;clear hcnt;have g0:=hBg.at_ 0 _ rfl;have g1:=hBg.at_ 1 _ rfl;have g2:=hBg.at_ 2 _ rfl;have r0:=hBg.free 0;have r1:=hBg.free 1;have r2:=hBg.free 2;have hBS:Box (((W6.setCell ⟨w.heap.size+1+1+1,0,none⟩ (.string S.name)).setCell ⟨w.heap.size+1+1+1,1,none⟩ (.slice A7 S.params.length c7)).setCell ⟨w.heap.size+1+1+1,2,none⟩ (.string S.result)) (w.heap.size+1+1+1) 62 #[.string S.name,.slice A7 S.params.length c7,.string S.result]:=((hBg.put 0 _).put 1 _).put 2 _;have hF1:=((hB1.far (p:=⟨w.heap.size+1+1+1,0,none⟩) (by simp<;>omega) (.string S.name)).far (p:=⟨w.heap.size+1+1+1,1,none⟩) (by simp<;>omega) (.slice A7 S.params.length c7)).far (p:=⟨w.heap.size+1+1+1,2,none⟩) (by simp<;>omega) (.string S.result);have hF2:=((hB2.far (p:=⟨w.heap.size+1+1+1,0,none⟩) (by simp<;>omega) (.string S.name)).far (p:=⟨w.heap.size+1+1+1,1,none⟩) (by simp<;>omega) (.slice A7 S.params.length c7)).far (p:=⟨w.heap.size+1+1+1,2,none⟩) (by simp<;>omega) (.string S.result);have hF3:=((hB3.far (p:=⟨w.heap.size+1+1+1,0,none⟩) (by simp<;>omega) (.string S.name)).far (p:=⟨w.heap.size+1+1+1,1,none⟩) (by simp<;>omega) (.slice A7 S.params.length c7)).far (p:=⟨w.heap.size+1+1+1,2,none⟩) (by simp<;>omega) (.string S.result);have jc:=((hb6.setCell (p:=⟨w.heap.size+1+1+1,0,none⟩) (by simp<;>omega) (.string S.name)).setCell (p:=⟨w.heap.size+1+1+1,1,none⟩) (by simp<;>omega) (.slice A7 S.params.length c7)).setCell (p:=⟨w.heap.size+1+1+1,2,none⟩) (by simp<;>omega) (.string S.result);have hbad:=fun(k:Nat) (a:Ex) (z:Int) h1 h2 h3 h4=>hE.trans (HBAD.out k a z h1 h2 h3 h4)
   have hgood:=fun h=>hE.trans (jk.out h)
   clear HBAD jk;obtain⟨HBS,HB1,HB2,HB3,rH,HBAD,jk⟩:=aB hBS hF1 hF2 hF3 jc hbad hgood;clear hBS hF1 hF2 hF3 jc hbad hgood;clear hB1 hB2 hB3 hBg Px hbk hb6 hzk hE;go_upto_region 24 with fail
   have hBS:=HBS.out;have hF1:=HB1.out;have hF2:=HB2.out;have hF3:=HB3.out;have jc:=rH.out;obtain⟨W2,hW2⟩:∃W,((W6.setCell ⟨w.heap.size+1+1+1,0,none⟩ (.string S.name)).setCell ⟨w.heap.size+1+1+1,1,none⟩ (.slice A7 S.params.length c7)).setCell ⟨w.heap.size+1+1+1,2,none⟩ (.string S.result)=W:=⟨_,rfl⟩;rw[hW2]at hBS hF1 hF2 hF3 jc⊢;clear HBS HB1 HB2 HB3 rH hW2 x4 k0 k1 k2 g0 g1 g2 r0 r1 r2 hcz hcn;have x0:=hF3.at_ 0 _ rfl;have x4:=hF3.at_ 4 _ rfl;obtain⟨HBS,HB1,HB2,HB3,rH⟩:=ay hBS hF1 hF2 hF3 jc;clear hBS hF1 hF2 hF3 jc;go_wp2_with fail;go_loopg [17,18,19,20] args.length (fun gg s17 s18 _ _ wr=>∃(jj c:Nat) (B:Option Addr) (L:List ByteArray),jj≤args.length∧args.length-jj≤gg∧s18=.int .i64 jj∧s17=.slice B L.length c∧Aside (L=(args.take jj).map fun a=>(f a).1)∧Aside (∀j,j<jj→∀y,args[j]? =some y→(f y).2=0)∧
    Aside (aZ aY 1 9 W2.heap.size wr none_ (.slice B L.length c) L)∧Aside (Below W2.heap.size W2 wr))
   case atStart=>exact⟨0,0,none,[],Nat.zero_le _,by omega,rfl,rfl,aside rfl,aside (fun j hj=>absurd hj (Nat.not_lt_zero _)),aside aZ.nil_,aside (Below.refl _ _)⟩
   case round=>
    obtain⟨jj,c',B,L,hjj,hg,rfl,rfl,hL,hz,hO,BW⟩:=hrel;have hbw:=rH.out.trans (BW.out.mono rH.out.size);have hB1:=HB1.out.later BW.out HB1.out.lt;have hB2:=HB2.out.later BW.out HB2.out.lt;have hB3:=HB3.out.later BW.out HB3.out.lt;clear x0 x4;have x0:=hB3.at_ 0 _ rfl;have x4:=hB3.at_ 4 _ rfl
    by_cases hlt:jj<args.length
    ·have hltz:(jj:Int)<(args.length:Int):=by omega
     have vG:L.length=jj:=by rw[hL.out];simp;omega
     obtain⟨b1,off,ds,rfl,jc,hds,hr,hcell⟩:=(HA.out.up dN.stays hF hbw).at_ (k:=jj) hlt;have hx:=aK hlt;have hxm:=List.getElem_mem hlt;generalize args[jj]=a at hx hxm hr;obtain⟨A2,c2,rfl⟩:=dN.form hr;have hc0:=hcell 0 _ rfl;have hc1:=hcell 1 _ rfl;have hc2:=hcell 2 _ rfl;have hc3:=hcell 3 _ rfl;have hc4:=hcell 4 _ rfl;simp only[Nat.add_zero]at hc0;have hbl:b1<wr.heap.size:=bg hF hbw _ jc;have hrc:=fun U (hU:Below wr.heap.size wr U)=>xK.out a hxm _ U (aS hbw hU) (dN.stays.later hr hU (bg hF hbw))
     have Dn:=xH.out a;obtain⟨T,hT⟩:∃z,(f a).1=z:=⟨_,rfl⟩;obtain⟨z,hzz⟩:∃z,(f a).2=z:=⟨_,rfl⟩;rw[hT,hzz]at hrc;rw[hT]at Dn;have y0:=hB1.at_ 0 _ rfl;have y1:=hB1.at_ 1 _ rfl;have y2:=hB1.at_ 2 _ rfl;have q0:=hB2.at_ 0 _ rfl;have q1:=hB2.at_ 1 _ rfl;have YF:=hB1.lt;have l2':=hB2.lt;have l3':=hB3.lt;have hdr:Below wr.heap.size wr wr.drew:=by go_grown
     have Ia:=Lib.hid (show ∀w',Below wr.heap.size wr w'→(w'.cell? ⟨w.heap.size,0,none⟩=some (.slice U1 m.uses.length u1)∧w'.cell? ⟨w.heap.size,1,none⟩=some (.slice T1 m.types.length e1)∧w'.cell? ⟨w.heap.size,2,none⟩=some (.slice T2 m.funcs.length e2)∧w'.cell? ⟨w.heap.size+1,0,none⟩=some (.slice T3 own.types.length e3)∧w'.cell? ⟨w.heap.size+1,1,none⟩=some (.slice T4 own.funcs.length e4)∧w'.cell? ⟨w.heap.size+1+1,4,none⟩=some (.slice (some ⟨b1,off,none⟩) args.length c)∧w'.cell? ⟨b1,off+jj*5,none⟩=some (.int .i64 a.kind)∧w'.cell? ⟨b1,off+jj*5+1,none⟩=some (.int .i64 a.n)∧w'.cell? ⟨b1,off+jj*5+2,none⟩=some (.string a.bT)∧w'.cell? ⟨b1,off+jj*5+3,none⟩=some (.string a.s)∧w'.cell? ⟨b1,off+jj*5+4,none⟩=some (.slice A2 a.args.length c2))from fun w' h=>⟨(h.cell (p:=⟨w.heap.size,0,none⟩) YF).trans y0,(h.cell (p:=⟨w.heap.size,1,none⟩) YF).trans y1,(h.cell (p:=⟨w.heap.size,2,none⟩) YF).trans y2,(h.cell (p:=⟨w.heap.size+1,0,none⟩) l2').trans q0,(h.cell (p:=⟨w.heap.size+1,1,none⟩) l2').trans q1,(h.cell (p:=⟨w.heap.size+1+1,4,none⟩) l3').trans x4,(h.cell (p:=⟨b1,off+jj*5,none⟩) hbl).trans hc0,(h.cell (p:=⟨b1,off+jj*5+1,none⟩) hbl).trans hc1,(h.cell (p:=⟨b1,off+jj*5+2,none⟩) hbl).trans hc2,(h.cell (p:=⟨b1,off+jj*5+3,none⟩) hbl).trans hc3,(h.cell (p:=⟨b1,off+jj*5+4,none⟩) hbl).trans hc4⟩);obtain⟨HX,JR,HT,HZ,bP,zy,JK⟩:=aB hx hrc hT hzz hdr hbw vG;clear hx hrc hT hzz hdr hbw vG;go_upto_region 28 with fail
     clear hcell hds hr hxm hB1 hB2 hB3 jc y0 y1 y2 q0 q1 x0 x4 hc0 hc1 hc2 hc3 hc4
     by_cases hz0:z=0
     ·subst hz0
      go_region_held3(fun w'=>w'.cell? ⟨w.heap.size,0,none⟩=some (.slice U1 m.uses.length u1)∧w'.cell? ⟨w.heap.size,1,none⟩=some (.slice T1 m.types.length e1)∧w'.cell? ⟨w.heap.size,2,none⟩=some (.slice T2 m.funcs.length e2)∧w'.cell? ⟨w.heap.size+1,0,none⟩=some (.slice T3 own.types.length e3)∧w'.cell? ⟨w.heap.size+1,1,none⟩=some (.slice T4 own.funcs.length e4)∧w'.cell? ⟨w.heap.size+1+1,4,none⟩=some (.slice (some ⟨b1,off,none⟩) args.length c)∧w'.cell? ⟨b1,off+jj*5,none⟩=some (.int .i64 a.kind)∧w'.cell? ⟨b1,off+jj*5+1,none⟩=some (.int .i64 a.n)∧w'.cell? ⟨b1,off+jj*5+2,none⟩=some (.string a.bT)∧w'.cell? ⟨b1,off+jj*5+3,none⟩=some (.string a.s)∧w'.cell? ⟨b1,off+jj*5+4,none⟩=some (.slice A2 a.args.length c2))
       (exact Ia.out _ (by first|exact bP.out|exact bP.out.alloc bP.out.size _|(go_grown;done)|exact(bP.out.alloc bP.out.size _).alloc (bP.out.alloc bP.out.size _).size _|exact bP.out.setCell (aJ _) _|exact(bP.out.setCell (aJ _) _).setCell (aJ _) _))
       ((go_at_call 104;(with_reducible refine(JR.out _ bP.out).mono ?_);rintro e w7 ⟨rfl,oZ⟩;have hb8:=aS bP.out oZ;have bP:=Lib.hid hb8;clear hb8 oZ))
      all_goals
       have sF:=hO.out.below aY.stays bP.out;have uG:=BW.out.trans (bP.out.mono BW.out.size);obtain⟨xJ,kG⟩:=aj sF uG;clear sF uG;go_wp2_with(at_builtin;go_must((refine bH aY.stays (.string ⟨#[]⟩) [.string T] T rfl rfl underlying23 (bytes:=16) (by kernel_rfl) xJ.out rfl rfl (by decide) rfl rfl (show aY w7 none_ _ _ from⟨rfl,Dn⟩) (aY.one (w:=w7) (F:=none_) _ _ ⟨rfl,Dn⟩) (fun k hk=>hk.elim) (by unfold maxLen;have:=JK.out;omega) (by have:=JK.out;omega) (by have:=kG.out.size;omega) ?_);(intro A6 c6 W6 mV hgr _;have hb6:=kG.out.trans (hgr.below (B:=W2.heap.size) (aJ _) kG.out.size);have uq:=Lib.hid mV;have kH:=Lib.hid hb6;clear mV hgr hb6)));go_roundg (args.length-(jj+1))
       case measure=>omega
       case rel=>
        refine⟨jj+1,c6,A6,L++ [T],by omega,by omega,by go_num,by simp,aside ?_,aside (fO (g:=fun a=>(f a).2) HX.out HZ.out hz.out),aside ?_,aside kH.out⟩
        ·rw[List.take_add_one,HX.out,List.map_append,hL.out];simp[HT.out]
        ·have h:=aZ.wider aY.stays uq.out (F':=none_) (fun k hk=>hk.elim id id) (fun k hk=>hk.elim);simpa using h
     ·have hzb:(z==0)=false:=by simp[hz0]
      have he:=HBAD.out jj a z HX.out HZ.out hz0 hz.out;subst he
      go_region_held3(fun w'=>w'.cell? ⟨w.heap.size,0,none⟩=some (.slice U1 m.uses.length u1)∧w'.cell? ⟨w.heap.size,1,none⟩=some (.slice T1 m.types.length e1)∧w'.cell? ⟨w.heap.size,2,none⟩=some (.slice T2 m.funcs.length e2)∧w'.cell? ⟨w.heap.size+1,0,none⟩=some (.slice T3 own.types.length e3)∧w'.cell? ⟨w.heap.size+1,1,none⟩=some (.slice T4 own.funcs.length e4)∧w'.cell? ⟨w.heap.size+1+1,4,none⟩=some (.slice (some ⟨b1,off,none⟩) args.length c)∧w'.cell? ⟨b1,off+jj*5,none⟩=some (.int .i64 a.kind)∧w'.cell? ⟨b1,off+jj*5+1,none⟩=some (.int .i64 a.n)∧w'.cell? ⟨b1,off+jj*5+2,none⟩=some (.string a.bT)∧w'.cell? ⟨b1,off+jj*5+3,none⟩=some (.string a.s)∧w'.cell? ⟨b1,off+jj*5+4,none⟩=some (.slice A2 a.args.length c2))
       (exact Ia.out _ (by first|exact bP.out|exact bP.out.alloc bP.out.size _|(go_grown;done)|exact(bP.out.alloc bP.out.size _).alloc (bP.out.alloc bP.out.size _).size _|exact bP.out.setCell (aJ _) _|exact(bP.out.setCell (aJ _) _).setCell (aJ _) _))
       ((go_at_call 104;(with_reducible refine(JR.out _ bP.out).mono ?_);rintro e w7 ⟨rfl,oZ⟩;have hb8:=aS bP.out oZ;have bP:=Lib.hid hb8;clear hb8 oZ))
      all_goals
       go_wp2_with fail
       go_ret2
       exact⟨rfl,aS zy.out bP.out⟩
    ·have hltz:¬(jj:Int)<(args.length:Int):=by omega
     obtain rfl:jj=args.length:=by omega
     obtain⟨W7,rfl⟩:∃W,W=wr:=⟨_,rfl⟩;have he:=jk.out hz.out;have hL2:L=args.map fun a=>(f a).1:=by rw[hL.out,List.take_length]
     have vG:L.length=args.length:=by rw[hL2,List.length_map]
     rw[←hL2]at he;have uF:∀s∈L,okS s:=fun s hs=>by rw[hL2]at hs;obtain⟨a,_,rfl⟩:=List.mem_map.1 hs;exact xH.out a
     have hsl:=hO.out.slice aY.stays (jZ:=16) (F':=old W7.heap.size) (fun k hk=>hk.elim) (fun k h1 h2=>h2) (by omega) (by omega);have ahM:=HBS.out.later BW.out HBS.out.lt;have s1:=ahM.at_ 1 _ rfl;have s2:=ahM.at_ 2 _ rfl;have adx:=HSP.out.stays aY.stays (fun _ h=>h) (kC fun k hk=>(hbw.block k (hF k hk)).trans (oh.out.block k (hF k hk)).symm);have hao:=aaM S.params L S.result _ _ F (old W7.heap.size) W7 (bg hF hbw) eF adx hsl UC;have he2:E=if(oV S.params L S.result).2≠0 then(⟨#[]⟩,8)else((oV S.params L S.result).1,0):=he
     generalize(oV S.params L S.result).1=R at hao he2;generalize(oV S.params L S.result).2=zr at hao he2;obtain⟨HAO,cO⟩:=aj hao hbw;clear hao hbw;clear hsl adx ahM hB1 hB2 hB3 hL2 vG uF hz hO he
     by_cases hr0:zr=0
     ·subst hr0;rw[if_neg (by simp)]at he2;subst he2;go_wp2_with fail;refine HAO.out.mono ?_;rintro e w8 ⟨rfl,oZ⟩;have hbx:=aS cO.out oZ;have oq:=ah hbx;clear hbx;clear oZ;go_wp2_with fail
      go_ret2
      exact⟨rfl,oq.out⟩
     ·rw[if_pos hr0]at he2;subst he2;have hrb:(zr==0)=false:=by simp[hr0]
      go_wp2_with fail;refine HAO.out.mono ?_;rintro e w8 ⟨rfl,oZ⟩;have hbx:=aS cO.out oZ;have oq:=ah hbx;clear hbx;clear oZ;go_wp2_with fail
      go_ret2
      exact⟨rfl,oq.out⟩
  ·rw[if_pos hcnt]at hE;have hcz:((S.params.length:Int)==(args.length:Int))=false:=by simp;omega
   subst hE;have kH:=ah hb6;clear hb6;clear hB1 hB2 hB3 hBg Px hbk;go_wp2_with fail
   go_ret2
   exact⟨rfl,kH.out⟩
 ·rw[if_pos hz0]at hE;have hzb:(z0==0)=false:=by simp[hz0]
  subst hE;have kH:=ah hb6;clear hb6;clear hB1 hB2 hB3 hBg Px hbk;go_wp2_with fail
  go_ret2
  exact⟨rfl,kH.out⟩
theorem UU{m:Module}{l:List Import}{own:gU}{ps:List Known}(hps:∀p∈ps,okS p.dV):∀n:Nat,JZ n (ZW m l own ps n) m l own ps
 |0=>fun _ _ _ _ _ _ _ _ h=>by cases h
 |n+1=>by
  have ih:=UU hps n (m:=m) (l:=l) (own:=own);have hok:=YB hps n (m:=m) (l:=l) (own:=own);intro x ms lv os pv cs F w h hF hm hl ho hp hx;obtain⟨A,c,rfl⟩:=dN.form hx;obtain⟨k,v,o,s,args⟩:=x;simp only[Ex.kind,Ex.n,Ex.bT,Ex.s,Ex.args]at*;obtain⟨h8,hall,hc⟩:=Us h;have hA:=(ZH rfl hx).1;rcases hc with ⟨rfl,_⟩|⟨rfl,_⟩|⟨rfl,_⟩|⟨rfl,_⟩|⟨rfl,h2⟩|⟨rfl,h2⟩|⟨rfl,h2⟩
  ·exact adV m own v o s args.length ms lv os pv A c F w hm ho
  ·exact adY m own v o s args.length ms lv os pv A c F w hm ho
  ·exact adW m own ps v o s args.length ms lv os pv A c F w hF hm ho hp
  ·exact abn n _ m l own ps ih hok v o s args h8 hall ms lv os pv A c F w hF hm hl ho hp hA _ rfl
  ·exact adX n _ m l own ps ih hok v o s args h8 hall h2 ms lv os pv A c F w hF hm hl ho hp hA
  ·exact YA n _ m l own ps ih hok v o s args h8 hall h2 ms lv os pv A c F w hF hm hl ho hp hA
  ·exact afC n _ m l own ps ih hok v o s args h8 hall h2 ms lv os pv A c F w hF hm hl ho hp hA
theorem afL(x:Known)(cs:List Value)(F:aV)(s:ByteArray)(b:Nat)(W:World)(hx:aW W F cs x)(ha:W.cell? ⟨b,3,none⟩=some (.string s)):
  Calls prog 160 #[.agg cs.toArray,.pointer (some ⟨b,0,none⟩)] W fun e w'=>e=.returned (.bool (iT x.name s))∧Below W.heap.size W w':=by
 have hlt:=World.block_lt_of_cell? W _ ha;obtain⟨rfl,_,_⟩:=hx;unfold iT;go_enter func160,ntmps160;cases hq:(x.name.toList==s.toList);all_goals (go_wp2;go_ret;exact⟨by simp,by go_grown⟩)
theorem afM(y p:ByteArray)(b b1 off n c:Nat)(W:World)(hn:0<n)(ha:W.cell? ⟨b,0,none⟩=some (.slice (some ⟨b1,off,none⟩) n c))(h1:W.cell? ⟨b1,off,none⟩=some (.string p)):
  Calls prog 163 #[.string y,.pointer (some ⟨b,0,none⟩)] W fun e w'=>e=.returned (.bool (!iT y p))∧W=w':=by
 have hnz:(0:Int)<(n:Int):=by omega
 unfold iT;go_enter func163,ntmps163;cases hq:(y.toList==p.toList);all_goals (go_wp2;go_ret;exact⟨by simp,rfl⟩)
structure vW(w:World)(b:Nat)(F:aV)(m:Module)(l:List Import)(own:gU)(ps:List Known)(U1:Option Addr)(u1:Nat)(T1:Option Addr)(e1:Nat)(T2:Option Addr)(e2:Nat)(L1:Option Addr)(l1:Nat)(T3:Option Addr)(e3:Nat)(T4:Option Addr)(e4:Nat)(P1:Option Addr)(p1:Nat):Prop where
 box:Box w b 162 #[.slice U1 m.uses.length u1,.slice T1 m.types.length e1,.slice T2 m.funcs.length e2,.slice L1 l.length l1,.slice T3 own.types.length e3,.slice T4 own.funcs.length e4,.slice P1 ps.length p1]
 mod:aN w F [.slice U1 m.uses.length u1,.slice T1 m.types.length e1,.slice T2 m.funcs.length e2] m
 imps:SliceOf aU 4 72 w F (.slice L1 l.length l1) l
 face:bD w F [.slice T3 own.types.length e3,.slice T4 own.funcs.length e4] own
 aiz:SliceOf aW 2 32 w F (.slice P1 ps.length p1) ps
 low:∀k,F k→k<w.heap.size
def acV(n:Nat)(f:Ex→ByteArray×Int)(mx:Int)(m:Module)(l:List Import)(own:gU)(ps:List Known):Prop:=
 ∀(x:Ex) (b:Nat) (cs:List Value) (F:aV) (w:World) (U1:Option Addr) (u1:Nat) (T1:Option Addr) (e1:Nat) (T2:Option Addr) (e2:Nat) (L1:Option Addr) (l1:Nat) (T3:Option Addr) (e3:Nat) (T4:Option Addr) (e4:Nat) (P1:Option Addr) (p1:Nat),iE n x=0→vW w b F m l own ps U1 u1 T1 e1 T2 e2 L1 l1 T3 e3 T4 e4 P1 p1→dN w F cs x→w.cell? ⟨1,0,none⟩=some (.int .i64 mx)→
  Calls prog 97 #[.pointer (some ⟨b,0,none⟩),.agg cs.toArray] w fun e w'=>e=.returned (.tuple #[.string (f x).1,.int .i64 (f x).2])∧Below w.heap.size w w'
section
variable {w U:World} {b:Nat} {F:aV} {m:Module} {l:List Import} {own:gU} {ps:List Known} {U1:Option Addr} {u1:Nat} {T1:Option Addr} {e1:Nat} {T2:Option Addr} {e2:Nat} {L1:Option Addr} {l1:Nat} {T3:Option Addr} {e3:Nat} {T4:Option Addr} {e4:Nat} {P1:Option Addr} {p1:Nat}
theorem vW.later(h:vW w b F m l own ps U1 u1 T1 e1 T2 e2 L1 l1 T3 e3 T4 e4 P1 p1)(hU:Below w.heap.size w U):vW U b F m l own ps U1 u1 T1 e1 T2 e2 L1 l1 T3 e3 T4 e4 P1 p1:=
 ⟨h.box.later hU h.box.lt,aN.stays.later h.mod hU h.low,h.imps.up aU.stays h.low hU,bD.stays.later h.face hU h.low,h.aiz.up aW.stays h.low hU,bg h.low hU⟩
variable (v:Int) (o s:ByteArray) (na:Nat) (A:Option Addr) (c:Nat)
theorem aiv:Calls prog 97 #[.pointer (some ⟨b,0,none⟩),.agg #[.int .i64 1,.int .i64 v,.string o,.string s,.slice A na c]] w fun e w'=>
   e=.returned (.tuple #[.string abm,.int .i64 0])∧Below w.heap.size w w':=by
 go_enter func97,ntmps97;go_upto_region 1 with fail
 have ql:=Box.made w 81 #[.int .i64 1,.int .i64 v,.string o,.string s,.slice A na c];have hbe:Below w.heap.size w (w.alloc (.cells #[.int .i64 1,.int .i64 v,.string o,.string s,.slice A na c] 81)):=by go_grown
 have hze:(w.alloc (.cells #[.int .i64 1,.int .i64 v,.string o,.string s,.slice A na c] 81)).heap.size=w.heap.size+1:=by simp
 generalize w.alloc (.cells #[.int .i64 1,.int .i64 v,.string o,.string s,.slice A na c] 81)=W1 at ql hbe hze⊢;have x0:=ql.at_ 0 _ rfl;go_wp2_with fail
 go_ret2
 exact⟨rfl,hbe⟩
theorem aiy:Calls prog 97 #[.pointer (some ⟨b,0,none⟩),.agg #[.int .i64 2,.int .i64 v,.string o,.string s,.slice A na c]] w fun e w'=>
   e=.returned (.tuple #[.string VL,.int .i64 0])∧Below w.heap.size w w':=by
 go_enter func97,ntmps97;go_upto_region 1 with fail
 have ql:=Box.made w 81 #[.int .i64 2,.int .i64 v,.string o,.string s,.slice A na c];have hbe:Below w.heap.size w (w.alloc (.cells #[.int .i64 2,.int .i64 v,.string o,.string s,.slice A na c] 81)):=by go_grown
 have hze:(w.alloc (.cells #[.int .i64 2,.int .i64 v,.string o,.string s,.slice A na c] 81)).heap.size=w.heap.size+1:=by simp
 generalize w.alloc (.cells #[.int .i64 2,.int .i64 v,.string o,.string s,.slice A na c] 81)=W1 at ql hbe hze⊢;have x0:=ql.at_ 0 _ rfl;go_wp2_with fail
 go_ret2
 exact⟨rfl,hbe⟩
theorem aiw(hS:vW w b F m l own ps U1 u1 T1 e1 T2 e2 L1 l1 T3 e3 T4 e4 P1 p1):
  Calls prog 97 #[.pointer (some ⟨b,0,none⟩),.agg #[.int .i64 3,.int .i64 v,.string o,.string s,.slice A na c]] w fun e w'=>
   e=.returned (.tuple #[.string (nC ps s).1,.int .i64 (nC ps s).2])∧Below w.heap.size w w':=by
 obtain⟨E,hE⟩:∃z,nC ps s=z:=⟨_,rfl⟩;rw[hE];obtain⟨HS,HE⟩:=aj hS hE;clear hS hE;go_enter func97,ntmps97;go_upto_region 1 with fail
 have ql:=Box.made w 81 #[.int .i64 3,.int .i64 v,.string o,.string s,.slice A na c];have hbe:Below w.heap.size w (w.alloc (.cells #[.int .i64 3,.int .i64 v,.string o,.string s,.slice A na c] 81)):=by go_grown
 have hze:(w.alloc (.cells #[.int .i64 3,.int .i64 v,.string o,.string s,.slice A na c] 81)).heap.size=w.heap.size+1:=by simp
 generalize w.alloc (.cells #[.int .i64 3,.int .i64 v,.string o,.string s,.slice A na c] 81)=W1 at ql hbe hze⊢;have x0:=ql.at_ 0 _ rfl;have hS1:=HS.out.later hbe;have hcell:=fun(U:World) (hU:Below W1.heap.size W1 U)=>(ql.later hU ql.lt).at_ 3 (.string s) rfl
 have hidx:=GX (.slice P1 ps.length p1) ps F 160 #[.pointer (some ⟨w.heap.size,0,none⟩)] (fun x=>iT x.name s) W1 (enters_of func160 (by kernel_rfl) rfl) hS1.low hS1.aiz (fun U x cs _ hU hr=>by
  have h:=afL x cs F s w.heap.size U hr (hcell U hU);obtain⟨rfl,_,_⟩:=hr;exact h)
 have hk:=xR (fun x=>iT x.name s) ps;generalize fidx (fun x=>iT x.name s) ps=z at hidx hk;have hBs:=hS1.box;have y6:=hBs.at_ 6 _ rfl;obtain⟨HK,HI,Jv,Hb⟩:=au hk hidx hS1 hbe;clear hk hidx hS1 hbe;clear hcell ql hBs hze;go_wp2_with fail;refine HI.out.mono ?_;rintro e W2 ⟨rfl,hb2⟩;have hbw:=aS Hb.out hb2;have hS2:=Jv.out.later hb2;have hBs:=hS2.box;clear x0 y6;have y6:=hBs.at_ 6 _ rfl;rcases HK.out with ⟨rfl,hall⟩|⟨k,x,rfl,hx,hfx,hall⟩
 ·have he:=HE.out.symm.trans (Lu hall);subst he;have cO:=ah hbw;clear hbw;clear hS2 hBs hall hb2;go_wp2_with fail
  go_ret2
  exact⟨rfl,cO.out⟩
 ·have hk2:k<ps.length:=(List.getElem?_eq_some_iff.1 hx).1;have hkz:¬(k:Int)<0:=by omega
  have ah2:(k:Int)<(ps.length:Int):=by omega
  have he:=HE.out.symm.trans (PO hx hfx hall);subst he;obtain⟨b1,off,ds,rfl,jc,hds,⟨rfl,_⟩,hcell⟩:=hS2.aiz.at_ (k:=k) hk2;have hc0:=hcell 0 _ rfl;have hc1:=hcell 1 _ rfl;simp only[Nat.add_zero]at hc0;rw[(List.getElem?_eq_some_iff.1 hx).2]at hc1;have cO:=ah hbw;clear hbw;clear hS2 hBs hall hb2 hx hfx hc0 hcell hds;go_wp2_with fail
  go_ret2
  exact⟨rfl,cO.out⟩
end
def ac0(n m:Nat):aV:=fun k=>k<m∧k≠n
theorem ac5(n:Nat)(f:Ex→ByteArray×Int)(mx:Int)(m:Module)(l:List Import)(own:gU)(ps:List Known)(ih:acV n f mx m l own ps)(hok:∀a,okS (f a).1)
  (v:Int) (o s:ByteArray) (args:List Ex) (h8:args.length≤8) (hall:∀a∈args,iE n a=0)
  (b:Nat) (A:Option Addr) (c:Nat) (F:aV) (w:World) {U1:Option Addr} {u1:Nat} {T1:Option Addr} {e1:Nat} {T2:Option Addr} {e2:Nat} {L1:Option Addr} {l1:Nat} {T3:Option Addr} {e3:Nat} {T4:Option Addr} {e4:Nat} {P1:Option Addr} {p1:Nat}
  (hS:vW w b F m l own ps U1 u1 T1 e1 T2 e2 L1 l1 T3 e3 T4 e4 P1 p1) (hA:SliceOf dN 5 72 w F (.slice A args.length c) args) (hM:w.cell? ⟨1,0,none⟩=some (.int .i64 mx))
  (aa9:nN kR.name (eU m l own o).funcs) (E:ByteArray×Int)
  (hE:E=if jR (eU m l own o).funcs s≠0 then(⟨#[]⟩,6)else if(kW (eU m l own o).funcs s).params.length≠args.length then(⟨#[]⟩,7)else gB f (yE (kW (eU m l own o).funcs s)) args):
  Calls prog 161 #[.pointer (some ⟨b,0,none⟩),.agg #[.int .i64 4,.int .i64 v,.string o,.string s,.slice A args.length c]] w fun e w'=>
   e=.returned (.tuple #[.string E.1,.int .i64 E.2])∧Below w.heap.size w w':=by
 have hrec:=fun a (ha:a∈args) ds U (hU:Below w.heap.size w U) (hr:dN U F ds a)=>ih a b ds F U _ _ _ _ _ _ _ _ _ _ _ _ _ _ (hall a ha) (hS.later hU) hr ((hU.cell (World.block_lt_of_cell? w _ hM)).trans hM)
 have hfo:=fun U (hU:Below w.heap.size w U)=>vX m l o _ _ F F U (bg hS.low hU) (bg hS.low hU) (hS.later hU).mod (hS.later hU).imps
 have hX0:=Kq (m:=m) (l:=l) (own:=own) (o:=o);have hX1:=Ih (m:=m) (l:=l) (own:=own) (o:=o);generalize eU m l own o=X at hE hX0 hX1 aa9;have hF:=hS.low;have hAc:args.length≤c∧c≤9223372036854775807:=by
  obtain⟨A',c',e,h1,h2,_⟩:=hA;injection e with e1 e2 e3
  subst e3;exact⟨h1,by unfold maxLen at h2;omega⟩
 have hfi:=fun(G:aV) (U:World) (cs:List Value) (hG:∀k,G k→k<U.heap.size) (hr:bD U G cs X)=>EJ X s cs G U hG hr aa9
 generalize ku m l o=zf at hfo;obtain⟨z0,hz0⟩:∃z,jR X.funcs s=z:=⟨_,rfl⟩;obtain⟨S,hS0⟩:∃z,kW X.funcs s=z:=⟨_,rfl⟩;rw[hz0,hS0]at hfi hE;have hbad:=fun(k:Nat) (a:Ex) (z:Int)=>mg (f:=f) (fin:=yE S) (args:=args) (k:=k) (a:=a) (z:=z)
 have hgood:=kS (f:=f) (fin:=yE S) (args:=args);obtain⟨zo,Iu⟩:∃z,o.toList.isEmpty=z:=⟨_,rfl⟩;obtain⟨xK,HA,HBAD,jk,xH,HFO,HFI,HX0,HX1,HE,HS,HM0⟩:=aI hrec hA hbad hgood hok hfo hfi hX0 hX1 hE hS hM;clear hrec hA hbad hgood hok hfo hfi hX0 hX1 hE hS hM;clear ih hall hz0 hS0 aa9;go_enter func161,ntmps161;go_upto_region 1 with fail
 have ql:=Box.made w 81 #[.int .i64 4,.int .i64 v,.string o,.string s,.slice A args.length c];have hbe:Below w.heap.size w (w.alloc (.cells #[.int .i64 4,.int .i64 v,.string o,.string s,.slice A args.length c] 81)):=by go_grown
 have hze:(w.alloc (.cells #[.int .i64 4,.int .i64 v,.string o,.string s,.slice A args.length c] 81)).heap.size=w.heap.size+1:=by simp
 generalize w.alloc (.cells #[.int .i64 4,.int .i64 v,.string o,.string s,.slice A args.length c] 81)=W1 at ql hbe hze⊢;have hS1:=HS.out.later hbe;have hSb:=hS1.box;have y4:=hSb.at_ 4 _ rfl;have y5:=hSb.at_ 5 _ rfl;clear hze;go_upto_region 2 with fail
 have hBj:=Box.made W1 42 #[.slice T3 own.types.length e3,.slice T4 own.funcs.length e4];have hbj:Below W1.heap.size W1 (W1.alloc (.cells #[.slice T3 own.types.length e3,.slice T4 own.funcs.length e4] 42)):=by go_grown
 have hzj:(W1.alloc (.cells #[.slice T3 own.types.length e3,.slice T4 own.funcs.length e4] 42)).heap.size=W1.heap.size+1:=by simp
 generalize W1.alloc (.cells #[.slice T3 own.types.length e3,.slice T4 own.funcs.length e4] 42)=V3 at hBj hbj hzj⊢;clear y4 y5;have adw:=hSb.later hbj hSb.lt;have akg:=ql.later hbj ql.lt;have hb3:=aS hbe hbj;have hne:w.heap.size<W1.heap.size:=ql.lt;have hbl:=hSb.lt;have y0:=adw.at_ 0 _ rfl;have y1:=adw.at_ 1 _ rfl;have y2:=adw.at_ 2 _ rfl;have y3:=adw.at_ 3 _ rfl;have x2:=akg.at_ 2 _ rfl;obtain⟨HB3,HBJ,vk,HB1,NC,Jv,BH⟩:=aB hb3 hBj ql hbe hbj hS1 hne;clear hb3 hBj ql hbe hbj hS1 hne;clear adw akg hzj;go_upto_if 21 with (fail)
 go_cut [] (fun wc=>∃T5 e5 T6 e6,Aside (Box wc W1.heap.size 42 #[.slice T5 X.types.length e5,.slice T6 X.funcs.length e6])∧Aside (bD wc (ac0 W1.heap.size wc.heap.size) [.slice T5 X.types.length e5,.slice T6 X.funcs.length e6] X)∧Aside (Below W1.heap.size W1 wc))
 case first=>
  cases zo with
  |true=>
   have he:=HX0.out Iu;subst he;go_wp2_with fail;go_meet;exact⟨_,_,_,_,aside HBJ.out,aside (bD.stays.wider (Jv.out.later NC.out).face (fun k hk=>⟨by have:=Jv.out.low k hk;have:=NC.out.size;omega,by have:=Jv.out.low k hk;omega⟩)),aside NC.out⟩
  |false=>
   have he:=HX1.out Iu;have hdr:Below W1.heap.size W1 V3.drew:=NC.out.trans (by go_grown);have hdq:Below V3.heap.size V3 V3.drew:=by go_grown
   have akQ:=fun U (hU:Below V3.heap.size V3 U)=>HFO.out U (aS HB3.out hU)
   have hSb:=Jv.out.box;have ql:=vk.out;have a0:=hSb.at_ 0 _ rfl;have a1:=hSb.at_ 1 _ rfl;have a2:=hSb.at_ 2 _ rfl;have a3:=hSb.at_ 3 _ rfl;have c2:=ql.at_ 2 _ rfl;have hlt:=hSb.lt;have hne:=BH.out;have Ia:=Lib.hid (show ∀w',Below W1.heap.size W1 w'→(w'.cell? ⟨b,0,none⟩=some (.slice U1 m.uses.length u1)∧w'.cell? ⟨b,1,none⟩=some (.slice T1 m.types.length e1)∧w'.cell? ⟨b,2,none⟩=some (.slice T2 m.funcs.length e2)∧w'.cell? ⟨b,3,none⟩=some (.slice L1 l.length l1)∧w'.cell? ⟨w.heap.size,2,none⟩=some (.string o))from fun w' h=>⟨(h.cell (p:=⟨b,0,none⟩) hlt).trans a0,(h.cell (p:=⟨b,1,none⟩) hlt).trans a1,(h.cell (p:=⟨b,2,none⟩) hlt).trans a2,(h.cell (p:=⟨b,3,none⟩) hlt).trans a3,(h.cell (p:=⟨w.heap.size,2,none⟩) hne).trans c2⟩);have HEX:=ah he;have amj:=ah akQ;obtain⟨bP,HBq⟩:=aj hdr hdq;clear hdr hdq;clear he akQ hSb ql a0 a1 a2 a3 c2;go_upto_region 3 with fail
   clear y0 y1 y2 y3 x2
   go_region_held3(fun w'=>w'.cell? ⟨b,0,none⟩=some (.slice U1 m.uses.length u1)∧w'.cell? ⟨b,1,none⟩=some (.slice T1 m.types.length e1)∧w'.cell? ⟨b,2,none⟩=some (.slice T2 m.funcs.length e2)∧w'.cell? ⟨b,3,none⟩=some (.slice L1 l.length l1)∧w'.cell? ⟨w.heap.size,2,none⟩=some (.string o))
    (exact Ia.out _ (by first|exact bP.out|exact bP.out.alloc bP.out.size _|(go_grown;done)|exact(bP.out.alloc bP.out.size _).alloc (bP.out.alloc bP.out.size _).size _|exact bP.out.setCell (aJ _) _|exact(bP.out.setCell (aJ _) _).setCell (aJ _) _))
    ((go_at_call 95;(with_reducible refine(amj.out _ HBq.out).mono ?_);rintro e w7 ⟨ds,rfl,oZ,hfr⟩;rw[←HEX.out]at hfr;obtain⟨T5,e5,T6,e6,rfl⟩:=bD.form hfr;have hb7:=HBq.out.trans (oZ.mono HBq.out.size);have xX:=HBJ.out.later hb7 HBJ.out.lt;have r0:=xX.at_ 0 _ rfl;have r1:=xX.at_ 1 _ rfl;have g0:=xX.free 0;have g1:=xX.free 1;have hbk:=NC.out.trans (hb7.mono NC.out.size);have bP:=Lib.hid hbk;have zD:=Lib.hid xX;have JJ:=Lib.hid hfr;have Ny:=Lib.hid hb7.size;clear oZ hb7 xX hbk hfr))
   all_goals
    have hBX:Box ((w7.setCell ⟨W1.heap.size,0,none⟩ (.slice T5 X.types.length e5)).setCell ⟨W1.heap.size,1,none⟩ (.slice T6 X.funcs.length e6)) W1.heap.size 42 #[.slice T5 X.types.length e5,.slice T6 X.funcs.length e6]:=(zD.out.put 0 _).put 1 _;have hj:=HBJ.out.lt;have hno:¬fresh V3.heap.size w7.heap.size W1.heap.size:=fun h=>by have:=h.1;omega
    have hFX:=bD.stays.wider (F':=ac0 W1.heap.size w7.heap.size) (bD.stays.set (p:=⟨W1.heap.size,1,none⟩) (bD.stays.set (p:=⟨W1.heap.size,0,none⟩) JJ.out hno (.slice T5 X.types.length e5)) hno (.slice T6 X.funcs.length e6)) (fun k hk=>⟨hk.2,by have h1:V3.heap.size≤k:=hk.1;omega⟩);have hbX:=(bP.out.setCell (p:=⟨W1.heap.size,0,none⟩) (aJ _) (.slice T5 X.types.length e5)).setCell (p:=⟨W1.heap.size,1,none⟩) (aJ _) (.slice T6 X.funcs.length e6);obtain⟨oq,HFX,HbX⟩:=ak hBX hFX hbX;clear hBX hFX hbX;clear hj;go_wp2_with fail;go_meet;exact⟨_,_,_,_,aside oq.out,aside (by simpa only[size_set]using HFX.out),aside HbX.out⟩
 case rest=>
 obtain⟨T5,e5,T6,e6,hBX,hFX,hbX⟩:=hcut;obtain⟨W4,rfl⟩:∃W,W=wc:=⟨_,rfl⟩;have hb4:=aS HB1.out hbX.out;have ahN:=vk.out.later hbX.out vk.out.lt;have Yk:=hBX.out;clear y0 y1 y2 y3 x2;have r0:=Yk.at_ 0 _ rfl;have r1:=Yk.at_ 1 _ rfl;have x3:=ahN.at_ 3 _ rfl;have hfi:=HFI.out _ W4 _ (fun k hk=>hk.1) hFX.out;obtain⟨ag0,HE4,pY⟩:=ak hfi ahN hb4;clear hfi ahN hb4;clear hBX hFX hbX Yk;go_wp2_with fail;refine(ag0.out).mono ?_;rintro e W5 ⟨ds,rfl,hb5,hSr⟩;obtain⟨pv,rfl,hSn,UC,hSp⟩:=hSr;obtain⟨A7,c7,rfl,_,_,hSl,_⟩:=hSp.form;have akh:=HE4.out.later hb5 HE4.out.lt;have adF:=aS pY.out hb5;obtain⟨HE5,oh,HSP⟩:=ak akh adF hSp;clear akh adF hSp;clear hb5 r0 r1 x3;go_upto_region 5 with fail
 have Px:=Box.made W5 62 #[.string S.name,.slice A7 S.params.length c7,.string S.result];have hbk:Below W5.heap.size W5 (W5.alloc (.cells #[.string S.name,.slice A7 S.params.length c7,.string S.result] 62)):=by go_grown
 have hzk:(W5.alloc (.cells #[.string S.name,.slice A7 S.params.length c7,.string S.result] 62)).heap.size=W5.heap.size+1:=by simp
 generalize W5.alloc (.cells #[.string S.name,.slice A7 S.params.length c7,.string S.result] 62)=W2 at Px hbk hzk⊢;have ado:=HE5.out.later hbk HE5.out.lt;have hb2:=aS oh.out hbk;have aks:=HSP.out.up aY.stays (fun _ h=>cZ _ h) hbk;have hE:=HE.out
 by_cases hz0:z0=0
 ·subst hz0;rw[if_neg (by simp)]at hE;have k0:=Px.at_ 0 _ rfl;have k1:=Px.at_ 1 _ rfl;have k2:=Px.at_ 2 _ rfl;have x4:=ado.at_ 4 _ rfl
  by_cases hcnt:S.params.length=args.length
  ·rw[if_neg (by simp[hcnt])]at hE;have hcz:((S.params.length:Int)==(args.length:Int))=true:=by simp[hcnt]
   have hcn:((S.params.length:Int)!=(args.length:Int))=false:=by simp[hcnt]
   have hbad:=fun(k:Nat) (a:Ex) (z:Int) h1 h2 h3 h4=>hE.trans (HBAD.out k a z h1 h2 h3 h4)
   have hgood:=fun h=>hE.trans (jk.out h)
   clear HBAD jk;obtain⟨aav,HBAD,jk,HBK,HE2,rH,anb⟩:=aB hcnt hbad hgood Px ado hb2 aks;clear hcnt hbad hgood Px ado hb2 aks;clear hE hzk;go_wp2_with fail;clear x4;go_loopg [9,11,12,13,55] args.length (fun gg s9 _ _ _ s55 wr=>∃(jj c:Nat) (B:Option Addr) (L:List ByteArray),jj≤args.length∧args.length-jj≤gg∧s55=.int .i64 jj∧s9=.slice B L.length c∧Aside (L=(args.take jj).map fun a=>(f a).1)∧Aside (∀j,j<jj→∀y,args[j]? =some y→(f y).2=0)∧
    Aside (aZ aY 1 9 W2.heap.size wr none_ (.slice B L.length c) L)∧Aside (Below W2.heap.size W2 wr))
   case atStart=>exact⟨0,0,none,[],Nat.zero_le _,by omega,rfl,rfl,aside rfl,aside (fun j hj=>absurd hj (Nat.not_lt_zero _)),aside aZ.nil_,aside (Below.refl _ _)⟩
   case round=>
    obtain⟨jj,c',B,L,hjj,hg,rfl,rfl,hL,hz,hO,BW⟩:=hrel;have hbw:=aS rH.out BW.out
    by_cases hlt:jj<args.length
    ·have hltz:(jj:Int)<(args.length:Int):=by omega
     have vG:L.length=jj:=by rw[hL.out];simp;omega
     obtain⟨b1,off,ds,rfl,jc,hds,hr,hcell⟩:=(HA.out.up dN.stays hF hbw).at_ (k:=jj) hlt;have hx:=aK hlt;have hxm:=List.getElem_mem hlt;generalize args[jj]=a at hx hxm hr;obtain⟨A2,c2,rfl⟩:=dN.form hr;have hc0:=hcell 0 _ rfl;have hc1:=hcell 1 _ rfl;have hc2:=hcell 2 _ rfl;have hc3:=hcell 3 _ rfl;have hc4:=hcell 4 _ rfl;simp only[Nat.add_zero]at hc0;have Dn:=xH.out a;obtain⟨T,hT⟩:∃z,(f a).1=z:=⟨_,rfl⟩;obtain⟨z,hzz⟩:∃z,(f a).2=z:=⟨_,rfl⟩;rw[hT]at Dn;obtain⟨HX,HT,HZ,zy,JK,HR,HXM⟩:=aB hx hT hzz hbw vG hr hxm;clear hx hT hzz hbw vG hr hxm;clear hcell hds jc;go_upto_region 13 with fail
     have vZ:=Box.made wr 81 #[.int .i64 a.kind,.int .i64 a.n,.string a.bT,.string a.s,.slice A2 a.args.length c2];have hby:Below wr.heap.size wr (wr.alloc (.cells #[.int .i64 a.kind,.int .i64 a.n,.string a.bT,.string a.s,.slice A2 a.args.length c2] 81)):=by go_grown
     have hzy:(wr.alloc (.cells #[.int .i64 a.kind,.int .i64 a.n,.string a.bT,.string a.s,.slice A2 a.args.length c2] 81)).heap.size=wr.heap.size+1:=by simp
     generalize wr.alloc (.cells #[.int .i64 a.kind,.int .i64 a.n,.string a.bT,.string a.s,.slice A2 a.args.length c2] 81)=WA at vZ hby hzy⊢;have y0:=vZ.at_ 0 _ rfl;have y1:=vZ.at_ 1 _ rfl;have y2:=vZ.at_ 2 _ rfl;have y3:=vZ.at_ 3 _ rfl;have y4:=vZ.at_ 4 _ rfl;have hrc:=xK.out a HXM.out _ WA (aS zy.out hby) (dN.stays.later HR.out hby (bg hF zy.out));rw[HT.out,HZ.out]at hrc;have hO4:=hO.out.below aY.stays hby;have hb4:=BW.out.trans (hby.mono BW.out.size);obtain⟨JR,zl,HB4⟩:=ak hrc hO4 hb4;clear hrc hO4 hb4;clear hc0 hc1 hc2 hc3 hc4 vZ hby hzy
     by_cases hz0:z=0
     ·subst hz0;go_wp2_with fail;refine JR.out.mono ?_;rintro e W6 ⟨rfl,hb5⟩;have sF:=zl.out.below aY.stays hb5;have uG:=HB4.out.trans (hb5.mono HB4.out.size);clear y0 y1 y2 y3 y4;obtain⟨xJ,kG⟩:=aj sF uG;clear sF uG;clear hb5;go_wp2_with(at_builtin;go_must((refine bH aY.stays (.string ⟨#[]⟩) [.string T] T rfl rfl underlying23 (bytes:=16) (by kernel_rfl) xJ.out rfl rfl (by decide) rfl rfl (show aY W6 none_ _ _ from⟨rfl,Dn⟩) (aY.one (w:=W6) (F:=none_) _ _ ⟨rfl,Dn⟩) (fun k hk=>hk.elim) (by unfold maxLen;have:=JK.out;omega) (by have:=JK.out;omega) kG.out.size ?_);(intro A6 c6 W7 mV hgr _;have hb6:=kG.out.trans (hgr.below (B:=W2.heap.size) (aJ _) kG.out.size);have uq:=Lib.hid mV;have kH:=Lib.hid hb6;clear mV hgr hb6)));go_roundg (args.length-(jj+1))
      case measure=>omega
      case rel=>
       refine⟨jj+1,c6,A6,L++ [T],by omega,by omega,by go_num,by simp,aside ?_,aside (fO (g:=fun a=>(f a).2) HX.out HZ.out hz.out),aside ?_,aside kH.out⟩
       ·rw[List.take_add_one,HX.out,List.map_append,hL.out];simp[HT.out]
       ·have h:=aZ.wider aY.stays uq.out (F':=none_) (fun k hk=>hk.elim id id) (fun k hk=>hk.elim);simpa using h
     ·have hzb:(z==0)=false:=by simp[hz0]
      have he:=HBAD.out jj a z HX.out HZ.out hz0 hz.out;subst he;go_wp2_with fail;refine JR.out.mono ?_;rintro e W6 ⟨rfl,hb5⟩;have hbx:=aS rH.out (HB4.out.trans (hb5.mono HB4.out.size));have oq:=ah hbx;clear hbx;clear hb5;go_wp2_with fail
      go_ret2
      exact⟨rfl,oq.out⟩
    ·have hltz:¬(jj:Int)<(args.length:Int):=by omega
     obtain rfl:jj=args.length:=by omega
     obtain⟨W7,rfl⟩:∃W,W=wr:=⟨_,rfl⟩;have he:=jk.out hz.out;have hL2:L=args.map fun a=>(f a).1:=by rw[hL.out,List.take_length]
     have vG:L.length=args.length:=by rw[hL2,List.length_map]
     rw[←hL2]at he;have hsl:=hO.out.slice aY.stays (jZ:=16) (F':=old W7.heap.size) (fun k hk=>hk.elim) (fun k h1 h2=>h2) (by omega) (by omega);have ahO:=HBK.out.later BW.out HBK.out.lt;clear k0 k1 k2;have k1:=ahO.at_ 1 _ rfl;have k2:=ahO.at_ 2 _ rfl;have adx:=anb.out.up aY.stays (fun k h=>by have h1:=h.2;have:=hbk.size;omega) BW.out;have hM7:=(hbw.cell (World.block_lt_of_cell? w _ HM0.out)).trans HM0.out;have hao:=ae9 S.params L S.result _ _ _ (old W7.heap.size) mx W7 (fun k h=>by have h1:=h.2;have:=hbk.size;have:=BW.out.size;omega) eF adx hsl UC hM7;have he2:E=if(oV S.params L S.result).2≠0 then(⟨#[]⟩,8)else((oV S.params L S.result).1,0):=he
     generalize(oV S.params L S.result).1=R at hao he2;generalize(oV S.params L S.result).2=zr at hao he2;obtain⟨HAO,cO⟩:=aj hao hbw;clear hao hbw;clear hsl adx ahO hL2 vG hz hO he hbk
     by_cases hr0:zr=0
     ·subst hr0;rw[if_neg (by simp)]at he2;subst he2;go_wp2_with fail;refine HAO.out.mono ?_;rintro e w8 ⟨rfl,oZ⟩;have hbx:=aS cO.out oZ;have oq:=ah hbx;clear hbx;clear oZ;go_wp2_with fail
      go_ret2
      exact⟨rfl,oq.out⟩
     ·rw[if_pos hr0]at he2;subst he2;have hrb:(zr==0)=false:=by simp[hr0]
      go_wp2_with fail;refine HAO.out.mono ?_;rintro e w8 ⟨rfl,oZ⟩;have hbx:=aS cO.out oZ;have oq:=ah hbx;clear hbx;clear oZ;go_wp2_with fail
      go_ret2
      exact⟨rfl,oq.out⟩
  ·rw[if_pos hcnt]at hE;have hcz:((S.params.length:Int)==(args.length:Int))=false:=by simp;omega
   subst hE;have kH:=ah hb2;clear hb2;clear ado Px hbk;go_wp2_with fail
   go_ret2
   exact⟨rfl,kH.out⟩
 ·rw[if_pos hz0]at hE;have hzb:(z0==0)=false:=by simp[hz0]
  subst hE;have kH:=ah hb2;clear hb2;clear ado Px hbk;go_wp2_with fail
  go_ret2
  exact⟨rfl,kH.out⟩
theorem aix(n:Nat)(f:Ex→ByteArray×Int)(mx:Int)(m:Module)(l:List Import)(own:gU)(ps:List Known)(ih:acV n f mx m l own ps)(hok:∀a,okS (f a).1)
  (v:Int) (o s:ByteArray) (args:List Ex) (h8:args.length≤8) (hall:∀a∈args,iE n a=0) (h2:args.length=2)
  (b:Nat) (A:Option Addr) (c:Nat) (F:aV) (w:World) {U1:Option Addr} {u1:Nat} {T1:Option Addr} {e1:Nat} {T2:Option Addr} {e2:Nat} {L1:Option Addr} {l1:Nat} {T3:Option Addr} {e3:Nat} {T4:Option Addr} {e4:Nat} {P1:Option Addr} {p1:Nat}
  (hS:vW w b F m l own ps U1 u1 T1 e1 T2 e2 L1 l1 T3 e3 T4 e4 P1 p1) (hA:SliceOf dN 5 72 w F (.slice A args.length c) args) (hM:w.cell? ⟨1,0,none⟩=some (.int .i64 mx)):
  Calls prog 97 #[.pointer (some ⟨b,0,none⟩),.agg #[.int .i64 5,.int .i64 v,.string o,.string s,.slice A args.length c]] w fun e w'=>
   e=.returned (.tuple #[.string (gB f D9 args).1,.int .i64 (gB f D9 args).2])∧Below w.heap.size w w':=by
 have hrec:=fun a (ha:a∈args) ds U (hU:Below w.heap.size w U) (hr:dN U F ds a)=>ih a b ds F U _ _ _ _ _ _ _ _ _ _ _ _ _ _ (hall a ha) (hS.later hU) hr ((hU.cell (World.block_lt_of_cell? w _ hM)).trans hM)
 have hF:=hS.low;have hAc:args.length≤c∧c≤9223372036854775807:=by
  obtain⟨A',c',e,h1,h2,_⟩:=hA;injection e with e1 e2 e3
  subst e3;exact⟨h1,by unfold maxLen at h2;omega⟩
 have hbad:=fun(k:Nat) (a:Ex) (z:Int)=>mg (f:=f) (fin:=D9) (args:=args) (k:=k) (a:=a) (z:=z)
 have hgood:=kS (f:=f) (fin:=D9) (args:=args);generalize gB f D9 args=E at hbad hgood⊢;obtain⟨H2,xK,HA,HBAD,jk,xH⟩:=aA h2 hrec hA hbad hgood hok;clear h2 hrec hA hbad hgood hok;clear hS hM ih hall;go_enter func97,ntmps97;go_upto_region 1 with fail
 have ql:=Box.made w 81 #[.int .i64 5,.int .i64 v,.string o,.string s,.slice A args.length c];have hbe:Below w.heap.size w (w.alloc (.cells #[.int .i64 5,.int .i64 v,.string o,.string s,.slice A args.length c] 81)):=by go_grown
 have hze:(w.alloc (.cells #[.int .i64 5,.int .i64 v,.string o,.string s,.slice A args.length c] 81)).heap.size=w.heap.size+1:=by simp
 generalize w.alloc (.cells #[.int .i64 5,.int .i64 v,.string o,.string s,.slice A args.length c] 81)=W1 at ql hbe hze⊢;have x0:=ql.at_ 0 _ rfl;clear hze;go_upto_region 14 with fail
 have hBt:=Box.made W1 23 #[.slice none 0 0];have hbt:Below W1.heap.size W1 (W1.alloc (.cells #[.slice none 0 0] 23)):=by go_grown
 have pW:(W1.alloc (.cells #[.slice none 0 0] 23)).heap.size=W1.heap.size+1:=by simp
 generalize W1.alloc (.cells #[.slice none 0 0] 23)=W2 at hBt hbt pW⊢;have hB2:=ql.later hbt ql.lt;clear x0;have x4:=hB2.at_ 4 _ rfl;obtain⟨vk,HB1,OE,HBB,Xx⟩:=ay ql hbe hBt hbt pW;clear ql hbe hBt hbt pW;clear hB2;go_wp2_with fail;clear x4;go_loopg [9,10,11,50] args.length (fun gg _ _ _ s50 wr=>∃(jj c:Nat) (B:Option Addr) (L:List ByteArray),jj≤args.length∧args.length-jj≤gg∧s50=.int .i64 jj∧Aside (L=(args.take jj).map fun a=>(f a).1)∧Aside (∀j,j<jj→∀y,args[j]? =some y→(f y).2=0)∧
  Aside (Box wr W1.heap.size 23 #[.slice B L.length c])∧Aside (aZ aY 1 9 W2.heap.size wr none_ (.slice B L.length c) L)∧Aside (Below W1.heap.size W1 wr))
 case atStart=>exact⟨0,0,none,[],Nat.zero_le _,by omega,rfl,aside rfl,aside (fun j hj=>absurd hj (Nat.not_lt_zero _)),aside OE.out,aside aZ.nil_,aside HBB.out⟩
 case round=>
  obtain⟨jj,c',B,L,hjj,hg,rfl,hL,hz,hBt,hO,BW⟩:=hrel;have hbw:=aS HB1.out BW.out
  by_cases hlt:jj<args.length
  ·have hltz:(jj:Int)<(args.length:Int):=by omega
   have vG:L.length=jj:=by rw[hL.out];simp;omega
   obtain⟨b1,off,ds,rfl,jc,hds,hr,hcell⟩:=(HA.out.up dN.stays hF hbw).at_ (k:=jj) hlt;have hx:=aK hlt;have hxm:=List.getElem_mem hlt;generalize args[jj]=a at hx hxm hr;obtain⟨A2,c2,rfl⟩:=dN.form hr;have hc0:=hcell 0 _ rfl;have hc1:=hcell 1 _ rfl;have hc2:=hcell 2 _ rfl;have hc3:=hcell 3 _ rfl;have hc4:=hcell 4 _ rfl;simp only[Nat.add_zero]at hc0;have Dn:=xH.out a;obtain⟨T,hT⟩:∃z,(f a).1=z:=⟨_,rfl⟩;obtain⟨z,hzz⟩:∃z,(f a).2=z:=⟨_,rfl⟩;rw[hT]at Dn;obtain⟨HX,HT,HZ,zy,JK,HR,HM⟩:=aB hx hT hzz hbw vG hr hxm;clear hx hT hzz hbw vG hr hxm;clear hcell hds jc;go_upto_region 17 with fail
   have vZ:=Box.made wr 81 #[.int .i64 a.kind,.int .i64 a.n,.string a.bT,.string a.s,.slice A2 a.args.length c2];have hby:Below wr.heap.size wr (wr.alloc (.cells #[.int .i64 a.kind,.int .i64 a.n,.string a.bT,.string a.s,.slice A2 a.args.length c2] 81)):=by go_grown
   have hzy:(wr.alloc (.cells #[.int .i64 a.kind,.int .i64 a.n,.string a.bT,.string a.s,.slice A2 a.args.length c2] 81)).heap.size=wr.heap.size+1:=by simp
   generalize wr.alloc (.cells #[.int .i64 a.kind,.int .i64 a.n,.string a.bT,.string a.s,.slice A2 a.args.length c2] 81)=W4 at vZ hby hzy⊢;have y0:=vZ.at_ 0 _ rfl;have y1:=vZ.at_ 1 _ rfl;have y2:=vZ.at_ 2 _ rfl;have y3:=vZ.at_ 3 _ rfl;have y4:=vZ.at_ 4 _ rfl;have hrc:=xK.out a HM.out _ W4 (aS zy.out hby) (dN.stays.later HR.out hby (bg hF zy.out));rw[HT.out,HZ.out]at hrc;have hO4:=hO.out.below aY.stays hby;have Uz:=hBt.out.later hby hBt.out.lt;have hb4:=BW.out.trans (hby.mono BW.out.size);obtain⟨JR,zl,TB,HB4⟩:=au hrc hO4 Uz hb4;clear hrc hO4 Uz hb4;clear hc0 hc1 hc2 hc3 hc4 vZ hby hzy
   by_cases hz0:z=0
   ·subst hz0;go_wp2_with fail;refine JR.out.mono ?_;rintro e W5 ⟨rfl,hb5⟩;have sF:=zl.out.below aY.stays hb5;have Aa:=TB.out.later hb5 TB.out.lt;have uG:=HB4.out.trans (hb5.mono HB4.out.size);have n0:=Aa.at_ 0 _ rfl;have nf:=Aa.free 0;have UD:=Aa.lt;clear y0 y1 y2 y3 y4;obtain⟨xJ,aci,kG,F5⟩:=au sF Aa uG UD;clear sF Aa uG UD;clear hb5;go_wp2_with(at_builtin;go_must((refine bH aY.stays (.string ⟨#[]⟩) [.string T] T rfl rfl underlying23 (bytes:=16) (by kernel_rfl) xJ.out rfl rfl (by decide) rfl rfl (show aY W5 none_ _ _ from⟨rfl,Dn⟩) (aY.one (w:=W5) (F:=none_) _ _ ⟨rfl,Dn⟩) (fun k hk=>hk.elim) (by unfold maxLen;have:=JK.out;omega) (by have:=JK.out;omega) (by have:=F5.out;have:=Xx.out;omega) ?_);(intro A6 c6 W6 mV hgr _;have hb6:=kG.out.trans (hgr.below (B:=W1.heap.size) (by have:=Xx.out;omega) kG.out.size);have Pv:=hgr.box aci.out (by have:=Xx.out;omega);clear n0 nf;have n0:=Pv.at_ 0 _ rfl;have nf:=Pv.free 0;have uq:=Lib.hid mV;have kH:=Lib.hid hb6;have acj:=Lib.hid Pv;clear mV hgr hb6 Pv)));go_roundg (args.length-(jj+1))
    case measure=>omega
    case rel=>
     refine⟨jj+1,c6,A6,L++ [T],by omega,by omega,by go_num,aside ?_,aside (fO (g:=fun a=>(f a).2) HX.out HZ.out hz.out),aside ?_,aside ?_,aside (kH.out.setCell (by simp) _)⟩
     ·rw[List.take_add_one,HX.out,List.map_append,hL.out];simp[HT.out]
     ·have h:=acj.out.put 0 (.slice A6 (L.length+1) c6);simpa using h
     ·have h:=(uq.out.wider aY.stays (F':=none_) (fun k hk=>hk.elim id id) (fun k hk=>hk.elim)).set aY.stays (p:=⟨W1.heap.size,0,none⟩) (by have:=Xx.out;simp;omega) (fun k hk=>hk.elim) (.slice A6 (L.length+1) c6);simpa using h
   ·have hzb:(z==0)=false:=by simp[hz0]
    have he:=HBAD.out jj a z HX.out HZ.out hz0 hz.out;subst he;go_wp2_with fail;refine JR.out.mono ?_;rintro e W5 ⟨rfl,hb5⟩;have hbx:=aS HB1.out (HB4.out.trans (hb5.mono HB4.out.size));have oq:=ah hbx;clear hbx;clear hb5;go_wp2_with fail
    go_ret2
    exact⟨rfl,oq.out⟩
  ·have hltz:¬(jj:Int)<(args.length:Int):=by omega
   obtain rfl:jj=args.length:=by omega
   obtain⟨W7,rfl⟩:∃W,W=wr:=⟨_,rfl⟩;have he:=jk.out hz.out;have hL2:L=args.map fun a=>(f a).1:=by rw[hL.out,List.take_length]
   have vG:L.length=args.length:=by rw[hL2,List.length_map]
   rw[←hL2]at he;have uF:∀s∈L,okS s:=fun s hs=>by rw[hL2]at hs;obtain⟨a,_,rfl⟩:=List.mem_map.1 hs;exact xH.out a
   have hsl:=hO.out.slice aY.stays (jZ:=16) (F':=old W7.heap.size) (fun k hk=>hk.elim) (fun k h1 h2=>h2) (by omega) (by omega);have hB1:=vk.out.later BW.out vk.out.lt;have Dj:=hBt.out;have hB2:=Dj;have hB3:=Dj;have x0:=hB1.at_ 0 _ rfl;have n0:=Dj.at_ 0 _ rfl;obtain⟨p,q,rfl⟩:=SL (vG.trans H2.out);have hop:=uF p (by simp);have hoq:=uF q (by simp);obtain⟨b1,off,ds,hB,jc,hds,⟨rfl,_⟩,hcell⟩:=hsl.at_ (k:=0) (by simp);have hp0:=hcell 0 _ rfl;obtain⟨b2,off2,ds2,hB',KT,QV,⟨rfl,_⟩,hcell2⟩:=hsl.at_ (k:=1) (by simp);have hq0:=hcell2 0 _ rfl;subst hB;injection hB' with hB'
   injection hB' with e1 e2
   subst e1;subst e2;simp only[Nat.zero_mul,Nat.one_mul,Nat.add_zero,List.getElem_cons_zero,List.getElem_cons_succ]at hp0 hq0;obtain⟨HE,cO⟩:=aj he hbw;clear he hbw;clear hcell hcell2 hds QV hsl hL2 vG uF hz hO hB1 hB2 hB3;have he:E=if(p.toList==q.toList)=true∧((p.toList== [105,110,116])=true∨(p.toList== [116,101,120,116])=true)then(p,0)else(⟨#[]⟩,8):=by rw[HE.out];unfold D9 nth iT;rw[Bj,Nk];rfl
   simp only[List.length_cons,List.length_nil,Nat.zero_add]at*;cases h1:(p.toList==q.toList);all_goals cases h3:(p.toList== [105,110,116])
   all_goals cases h4:(p.toList== [116,101,120,116])
   all_goals
    have hE2:=he;rw[h1,h3,h4]at hE2;simp at hE2;subst hE2;clear he Dj hBt;go_upto_region 24 with fail
    go_quiet(fail);go_wp2_with fail
    go_ret2
    exact⟨rfl,below_drewN cO.out _⟩
theorem aek(n:Nat)(f:Ex→ByteArray×Int)(mx:Int)(m:Module)(l:List Import)(own:gU)(ps:List Known)(ih:acV n f mx m l own ps)(hok:∀a,okS (f a).1)
  (v:Int) (o s:ByteArray) (args:List Ex) (h8:args.length≤8) (hall:∀a∈args,iE n a=0) (h2:1≤args.length)
  (b:Nat) (A:Option Addr) (c:Nat) (F:aV) (w:World) {U1:Option Addr} {u1:Nat} {T1:Option Addr} {e1:Nat} {T2:Option Addr} {e2:Nat} {L1:Option Addr} {l1:Nat} {T3:Option Addr} {e3:Nat} {T4:Option Addr} {e4:Nat} {P1:Option Addr} {p1:Nat}
  (hS:vW w b F m l own ps U1 u1 T1 e1 T2 e2 L1 l1 T3 e3 T4 e4 P1 p1) (hA:SliceOf dN 5 72 w F (.slice A args.length c) args) (hM:w.cell? ⟨1,0,none⟩=some (.int .i64 mx)):
  Calls prog 97 #[.pointer (some ⟨b,0,none⟩),.agg #[.int .i64 6,.int .i64 v,.string o,.string s,.slice A args.length c]] w fun e w'=>
   e=.returned (.tuple #[.string (gB f oD args).1,.int .i64 (gB f oD args).2])∧Below w.heap.size w w':=by
 have hrec:=fun a (ha:a∈args) ds U (hU:Below w.heap.size w U) (hr:dN U F ds a)=>ih a b ds F U _ _ _ _ _ _ _ _ _ _ _ _ _ _ (hall a ha) (hS.later hU) hr ((hU.cell (World.block_lt_of_cell? w _ hM)).trans hM)
 have hF:=hS.low;have hAc:args.length≤c∧c≤9223372036854775807:=by
  obtain⟨A',c',e,h1,h2,_⟩:=hA;injection e with e1 e2 e3
  subst e3;exact⟨h1,by unfold maxLen at h2;omega⟩
 have hbad:=fun(k:Nat) (a:Ex) (z:Int)=>mg (f:=f) (fin:=oD) (args:=args) (k:=k) (a:=a) (z:=z)
 have hgood:=kS (f:=f) (fin:=oD) (args:=args);generalize gB f oD args=E at hbad hgood⊢;obtain⟨H2,xK,HA,HBAD,jk,xH⟩:=aA h2 hrec hA hbad hgood hok;clear h2 hrec hA hbad hgood hok;clear hS hM ih hall;go_enter func97,ntmps97;go_upto_region 1 with fail
 have ql:=Box.made w 81 #[.int .i64 6,.int .i64 v,.string o,.string s,.slice A args.length c];have hbe:Below w.heap.size w (w.alloc (.cells #[.int .i64 6,.int .i64 v,.string o,.string s,.slice A args.length c] 81)):=by go_grown
 have hze:(w.alloc (.cells #[.int .i64 6,.int .i64 v,.string o,.string s,.slice A args.length c] 81)).heap.size=w.heap.size+1:=by simp
 generalize w.alloc (.cells #[.int .i64 6,.int .i64 v,.string o,.string s,.slice A args.length c] 81)=W1 at ql hbe hze⊢;have x0:=ql.at_ 0 _ rfl;clear hze;go_upto_region 14 with fail
 have hBt:=Box.made W1 23 #[.slice none 0 0];have hbt:Below W1.heap.size W1 (W1.alloc (.cells #[.slice none 0 0] 23)):=by go_grown
 have pW:(W1.alloc (.cells #[.slice none 0 0] 23)).heap.size=W1.heap.size+1:=by simp
 generalize W1.alloc (.cells #[.slice none 0 0] 23)=W2 at hBt hbt pW⊢;have hB2:=ql.later hbt ql.lt;clear x0;have x4:=hB2.at_ 4 _ rfl;obtain⟨vk,HB1,OE,HBB,Xx⟩:=ay ql hbe hBt hbt pW;clear ql hbe hBt hbt pW;clear hB2;go_wp2_with fail;clear x4;go_loopg [9,10,11,50] args.length (fun gg _ _ _ s50 wr=>∃(jj c:Nat) (B:Option Addr) (L:List ByteArray),jj≤args.length∧args.length-jj≤gg∧s50=.int .i64 jj∧Aside (L=(args.take jj).map fun a=>(f a).1)∧Aside (∀j,j<jj→∀y,args[j]? =some y→(f y).2=0)∧
  Aside (Box wr W1.heap.size 23 #[.slice B L.length c])∧Aside (aZ aY 1 9 W2.heap.size wr none_ (.slice B L.length c) L)∧Aside (Below W1.heap.size W1 wr))
 case atStart=>exact⟨0,0,none,[],Nat.zero_le _,by omega,rfl,aside rfl,aside (fun j hj=>absurd hj (Nat.not_lt_zero _)),aside OE.out,aside aZ.nil_,aside HBB.out⟩
 case round=>
  obtain⟨jj,c',B,L,hjj,hg,rfl,hL,hz,hBt,hO,BW⟩:=hrel;have hbw:=aS HB1.out BW.out
  by_cases hlt:jj<args.length
  ·have hltz:(jj:Int)<(args.length:Int):=by omega
   have vG:L.length=jj:=by rw[hL.out];simp;omega
   obtain⟨b1,off,ds,rfl,jc,hds,hr,hcell⟩:=(HA.out.up dN.stays hF hbw).at_ (k:=jj) hlt;have hx:=aK hlt;have hxm:=List.getElem_mem hlt;generalize args[jj]=a at hx hxm hr;obtain⟨A2,c2,rfl⟩:=dN.form hr;have hc0:=hcell 0 _ rfl;have hc1:=hcell 1 _ rfl;have hc2:=hcell 2 _ rfl;have hc3:=hcell 3 _ rfl;have hc4:=hcell 4 _ rfl;simp only[Nat.add_zero]at hc0;have Dn:=xH.out a;obtain⟨T,hT⟩:∃z,(f a).1=z:=⟨_,rfl⟩;obtain⟨z,hzz⟩:∃z,(f a).2=z:=⟨_,rfl⟩;rw[hT]at Dn;obtain⟨HX,HT,HZ,zy,JK,HR,HM⟩:=aB hx hT hzz hbw vG hr hxm;clear hx hT hzz hbw vG hr hxm;clear hcell hds jc;go_upto_region 17 with fail
   have vZ:=Box.made wr 81 #[.int .i64 a.kind,.int .i64 a.n,.string a.bT,.string a.s,.slice A2 a.args.length c2];have hby:Below wr.heap.size wr (wr.alloc (.cells #[.int .i64 a.kind,.int .i64 a.n,.string a.bT,.string a.s,.slice A2 a.args.length c2] 81)):=by go_grown
   have hzy:(wr.alloc (.cells #[.int .i64 a.kind,.int .i64 a.n,.string a.bT,.string a.s,.slice A2 a.args.length c2] 81)).heap.size=wr.heap.size+1:=by simp
   generalize wr.alloc (.cells #[.int .i64 a.kind,.int .i64 a.n,.string a.bT,.string a.s,.slice A2 a.args.length c2] 81)=W4 at vZ hby hzy⊢;have y0:=vZ.at_ 0 _ rfl;have y1:=vZ.at_ 1 _ rfl;have y2:=vZ.at_ 2 _ rfl;have y3:=vZ.at_ 3 _ rfl;have y4:=vZ.at_ 4 _ rfl;have hrc:=xK.out a HM.out _ W4 (aS zy.out hby) (dN.stays.later HR.out hby (bg hF zy.out));rw[HT.out,HZ.out]at hrc;have hO4:=hO.out.below aY.stays hby;have Uz:=hBt.out.later hby hBt.out.lt;have hb4:=BW.out.trans (hby.mono BW.out.size);obtain⟨JR,zl,TB,HB4⟩:=au hrc hO4 Uz hb4;clear hrc hO4 Uz hb4;clear hc0 hc1 hc2 hc3 hc4 vZ hby hzy
   by_cases hz0:z=0
   ·subst hz0;go_wp2_with fail;refine JR.out.mono ?_;rintro e W5 ⟨rfl,hb5⟩;have sF:=zl.out.below aY.stays hb5;have Aa:=TB.out.later hb5 TB.out.lt;have uG:=HB4.out.trans (hb5.mono HB4.out.size);have n0:=Aa.at_ 0 _ rfl;have nf:=Aa.free 0;have UD:=Aa.lt;clear y0 y1 y2 y3 y4;obtain⟨xJ,aci,kG,F5⟩:=au sF Aa uG UD;clear sF Aa uG UD;clear hb5;go_wp2_with(at_builtin;go_must((refine bH aY.stays (.string ⟨#[]⟩) [.string T] T rfl rfl underlying23 (bytes:=16) (by kernel_rfl) xJ.out rfl rfl (by decide) rfl rfl (show aY W5 none_ _ _ from⟨rfl,Dn⟩) (aY.one (w:=W5) (F:=none_) _ _ ⟨rfl,Dn⟩) (fun k hk=>hk.elim) (by unfold maxLen;have:=JK.out;omega) (by have:=JK.out;omega) (by have:=F5.out;have:=Xx.out;omega) ?_);(intro A6 c6 W6 mV hgr _;have hb6:=kG.out.trans (hgr.below (B:=W1.heap.size) (by have:=Xx.out;omega) kG.out.size);have Pv:=hgr.box aci.out (by have:=Xx.out;omega);clear n0 nf;have n0:=Pv.at_ 0 _ rfl;have nf:=Pv.free 0;have uq:=Lib.hid mV;have kH:=Lib.hid hb6;have acj:=Lib.hid Pv;clear mV hgr hb6 Pv)));go_roundg (args.length-(jj+1))
    case measure=>omega
    case rel=>
     refine⟨jj+1,c6,A6,L++ [T],by omega,by omega,by go_num,aside ?_,aside (fO (g:=fun a=>(f a).2) HX.out HZ.out hz.out),aside ?_,aside ?_,aside (kH.out.setCell (by simp) _)⟩
     ·rw[List.take_add_one,HX.out,List.map_append,hL.out];simp[HT.out]
     ·have h:=acj.out.put 0 (.slice A6 (L.length+1) c6);simpa using h
     ·have h:=(uq.out.wider aY.stays (F':=none_) (fun k hk=>hk.elim id id) (fun k hk=>hk.elim)).set aY.stays (p:=⟨W1.heap.size,0,none⟩) (by have:=Xx.out;simp;omega) (fun k hk=>hk.elim) (.slice A6 (L.length+1) c6);simpa using h
   ·have hzb:(z==0)=false:=by simp[hz0]
    have he:=HBAD.out jj a z HX.out HZ.out hz0 hz.out;subst he;go_wp2_with fail;refine JR.out.mono ?_;rintro e W5 ⟨rfl,hb5⟩;have hbx:=aS HB1.out (HB4.out.trans (hb5.mono HB4.out.size));have oq:=ah hbx;clear hbx;clear hb5;go_wp2_with fail
    go_ret2
    exact⟨rfl,oq.out⟩
  ·have hltz:¬(jj:Int)<(args.length:Int):=by omega
   obtain rfl:jj=args.length:=by omega
   obtain⟨W7,rfl⟩:∃W,W=wr:=⟨_,rfl⟩;have he:=jk.out hz.out;have hL2:L=args.map fun a=>(f a).1:=by rw[hL.out,List.take_length]
   have vG:L.length=args.length:=by rw[hL2,List.length_map]
   rw[←hL2]at he;have uF:∀s∈L,okS s:=fun s hs=>by rw[hL2]at hs;obtain⟨a,_,rfl⟩:=List.mem_map.1 hs;exact xH.out a
   have hsl:=hO.out.slice aY.stays (jZ:=16) (F':=old W7.heap.size) (fun k hk=>hk.elim) (fun k h1 h2=>h2) (by omega) (by omega);have hB1:=vk.out.later BW.out vk.out.lt;have Dj:=hBt.out;have hB2:=Dj;have hB3:=Dj;have x0:=hB1.at_ 0 _ rfl;have n0:=Dj.at_ 0 _ rfl;have hl0:0<L.length:=by have:=H2.out;omega
   obtain⟨b1,off,ds,hB,jc,hds,⟨rfl,_⟩,hcell⟩:=hsl.at_ (k:=0) hl0;have hp0:=hcell 0 _ rfl;simp only[Nat.zero_mul,Nat.add_zero]at hp0;subst hB;obtain⟨p,hpe⟩:∃z,L[0]=z:=⟨_,rfl⟩;have hn0:nth L 0=p:=by unfold nth;rw[List.getD_eq_getElem?_getD,aK hl0,hpe];rfl
   rw[hpe]at hp0;have hop:okS p:=uF p (by rw[←hpe];exact List.getElem_mem _);unfold oD at he;rw[hn0]at he;have hkl:=fun U=>LK p U hop
   have hco:=vF (.slice (some ⟨b1,off,none⟩) L.length c') L (old W7.heap.size) 163 #[.pointer (some ⟨W1.heap.size,0,none⟩)] (fun y=> !iT y p) W7 (enters_of func163 (by kernel_rfl) rfl) eF hsl (fun U y cs _ hU hr=>by
    obtain⟨rfl,_⟩:=hr;refine(afM y p W1.heap.size b1 off L.length c' U hl0 ((hU.cell (p:=⟨W1.heap.size,0,none⟩) Dj.lt).trans n0) ((hU.cell (p:=⟨b1,off,none⟩) jc).trans hp0)).mono ?_;rintro e w' ⟨rfl,rfl⟩;exact⟨rfl,Below.refl _ _⟩)
   generalize jH p=R at hkl he;generalize kK p=z at hkl he;have hl0z:(0:Int)<(L.length:Int):=by omega
   have hcL:L.length≤c':=by
    obtain⟨A',c'',e,h1,h2,_⟩:=hsl;injection e with e1 e2 e3
    subst e3;exact h1
   have ZQ:L.all (fun t=>iT t p)= !(L.any fun y=> !iT y p):=by rw[List.not_any_eq_all_not];simp
   rw[ZQ]at he;generalize(L.any fun y=> !iT y p)=za at hco he;obtain⟨cO,HKL,HCO⟩:=ak hbw hkl hco;clear hbw hkl hco;clear hcell hds hL2 uF hz hO hB1 hB2 hB3 hpe hn0 jc Dj hBt ZQ hsl vG
   by_cases hz0:z=0
   ·subst hz0;cases za with
    |true=>
     rw[if_neg (by simp)]at he;subst he;go_wp2_with fail;refine(HKL.out _).mono ?_;rintro e w' ⟨rfl,rfl⟩;go_wp2_with fail;refine HCO.out.mono ?_;rintro e w' ⟨rfl,oZ⟩;have hbx:=aS cO.out oZ;have oq:=ah hbx;clear hbx;clear oZ;go_wp2_with fail
     go_ret2
     exact⟨rfl,oq.out⟩
    |false=>
     rw[if_pos ⟨rfl,rfl⟩]at he;subst he;go_wp2_with fail;refine(HKL.out _).mono ?_;rintro e w' ⟨rfl,rfl⟩;go_wp2_with fail;refine HCO.out.mono ?_;rintro e w' ⟨rfl,oZ⟩;have hbx:=aS cO.out oZ;have oq:=ah hbx;clear hbx;clear oZ;go_wp2_with fail
     go_ret2
     exact⟨rfl,oq.out⟩
   ·rw[if_neg (fun h=>hz0 h.1)]at he;subst he;have hzb:(z==0)=false:=by simp[hz0]
    go_wp2_with fail;refine(HKL.out _).mono ?_;rintro e w' ⟨rfl,rfl⟩;go_wp2_with fail
    go_ret2
    exact⟨rfl,cO.out⟩
theorem aln(n:Nat)(f:Ex→ByteArray×Int)(mx:Int)(m:Module)(l:List Import)(own:gU)(ps:List Known)(ih:acV n f mx m l own ps)(hok:∀a,okS (f a).1)
  (v:Int) (o s:ByteArray) (args:List Ex) (h8:args.length≤8) (hall:∀a∈args,iE n a=0) (h2:args.length=2)
  (b:Nat) (A:Option Addr) (c:Nat) (F:aV) (w:World) {U1:Option Addr} {u1:Nat} {T1:Option Addr} {e1:Nat} {T2:Option Addr} {e2:Nat} {L1:Option Addr} {l1:Nat} {T3:Option Addr} {e3:Nat} {T4:Option Addr} {e4:Nat} {P1:Option Addr} {p1:Nat}
  (hS:vW w b F m l own ps U1 u1 T1 e1 T2 e2 L1 l1 T3 e3 T4 e4 P1 p1) (hA:SliceOf dN 5 72 w F (.slice A args.length c) args) (hM:w.cell? ⟨1,0,none⟩=some (.int .i64 mx)):
  Calls prog 97 #[.pointer (some ⟨b,0,none⟩),.agg #[.int .i64 7,.int .i64 v,.string o,.string s,.slice A args.length c]] w fun e w'=>
   e=.returned (.tuple #[.string (gB f atR args).1,.int .i64 (gB f atR args).2])∧Below w.heap.size w w':=by
 have hrec:=fun a (ha:a∈args) ds U (hU:Below w.heap.size w U) (hr:dN U F ds a)=>ih a b ds F U _ _ _ _ _ _ _ _ _ _ _ _ _ _ (hall a ha) (hS.later hU) hr ((hU.cell (World.block_lt_of_cell? w _ hM)).trans hM)
 have hF:=hS.low;have hAc:args.length≤c∧c≤9223372036854775807:=by
  obtain⟨A',c',e,h1,h2,_⟩:=hA;injection e with e1 e2 e3
  subst e3;exact⟨h1,by unfold maxLen at h2;omega⟩
 have hbad:=fun(k:Nat) (a:Ex) (z:Int)=>mg (f:=f) (fin:=atR) (args:=args) (k:=k) (a:=a) (z:=z)
 have hgood:=kS (f:=f) (fin:=atR) (args:=args);generalize gB f atR args=E at hbad hgood⊢;obtain⟨H2,xK,HA,HBAD,jk,xH⟩:=aA h2 hrec hA hbad hgood hok;clear h2 hrec hA hbad hgood hok;clear hS hM ih hall;go_enter func97,ntmps97;go_upto_region 1 with fail
 have ql:=Box.made w 81 #[.int .i64 7,.int .i64 v,.string o,.string s,.slice A args.length c];have hbe:Below w.heap.size w (w.alloc (.cells #[.int .i64 7,.int .i64 v,.string o,.string s,.slice A args.length c] 81)):=by go_grown
 have hze:(w.alloc (.cells #[.int .i64 7,.int .i64 v,.string o,.string s,.slice A args.length c] 81)).heap.size=w.heap.size+1:=by simp
 generalize w.alloc (.cells #[.int .i64 7,.int .i64 v,.string o,.string s,.slice A args.length c] 81)=W1 at ql hbe hze⊢;have x0:=ql.at_ 0 _ rfl;clear hze;go_upto_region 14 with fail
 have hBt:=Box.made W1 23 #[.slice none 0 0];have hbt:Below W1.heap.size W1 (W1.alloc (.cells #[.slice none 0 0] 23)):=by go_grown
 have pW:(W1.alloc (.cells #[.slice none 0 0] 23)).heap.size=W1.heap.size+1:=by simp
 generalize W1.alloc (.cells #[.slice none 0 0] 23)=W2 at hBt hbt pW⊢;have hB2:=ql.later hbt ql.lt;clear x0;have x4:=hB2.at_ 4 _ rfl;obtain⟨vk,HB1,OE,HBB,Xx⟩:=ay ql hbe hBt hbt pW;clear ql hbe hBt hbt pW;clear hB2;go_wp2_with fail;clear x4;go_loopg [9,10,11,50] args.length (fun gg _ _ _ s50 wr=>∃(jj c:Nat) (B:Option Addr) (L:List ByteArray),jj≤args.length∧args.length-jj≤gg∧s50=.int .i64 jj∧Aside (L=(args.take jj).map fun a=>(f a).1)∧Aside (∀j,j<jj→∀y,args[j]? =some y→(f y).2=0)∧
  Aside (Box wr W1.heap.size 23 #[.slice B L.length c])∧Aside (aZ aY 1 9 W2.heap.size wr none_ (.slice B L.length c) L)∧Aside (Below W1.heap.size W1 wr))
 case atStart=>exact⟨0,0,none,[],Nat.zero_le _,by omega,rfl,aside rfl,aside (fun j hj=>absurd hj (Nat.not_lt_zero _)),aside OE.out,aside aZ.nil_,aside HBB.out⟩
 case round=>
  obtain⟨jj,c',B,L,hjj,hg,rfl,hL,hz,hBt,hO,BW⟩:=hrel;have hbw:=aS HB1.out BW.out
  by_cases hlt:jj<args.length
  ·have hltz:(jj:Int)<(args.length:Int):=by omega
   have vG:L.length=jj:=by rw[hL.out];simp;omega
   obtain⟨b1,off,ds,rfl,jc,hds,hr,hcell⟩:=(HA.out.up dN.stays hF hbw).at_ (k:=jj) hlt;have hx:=aK hlt;have hxm:=List.getElem_mem hlt;generalize args[jj]=a at hx hxm hr;obtain⟨A2,c2,rfl⟩:=dN.form hr;have hc0:=hcell 0 _ rfl;have hc1:=hcell 1 _ rfl;have hc2:=hcell 2 _ rfl;have hc3:=hcell 3 _ rfl;have hc4:=hcell 4 _ rfl;simp only[Nat.add_zero]at hc0;have Dn:=xH.out a;obtain⟨T,hT⟩:∃z,(f a).1=z:=⟨_,rfl⟩;obtain⟨z,hzz⟩:∃z,(f a).2=z:=⟨_,rfl⟩;rw[hT]at Dn;obtain⟨HX,HT,HZ,zy,JK,HR,HM⟩:=aB hx hT hzz hbw vG hr hxm;clear hx hT hzz hbw vG hr hxm;clear hcell hds jc;go_upto_region 17 with fail
   have vZ:=Box.made wr 81 #[.int .i64 a.kind,.int .i64 a.n,.string a.bT,.string a.s,.slice A2 a.args.length c2];have hby:Below wr.heap.size wr (wr.alloc (.cells #[.int .i64 a.kind,.int .i64 a.n,.string a.bT,.string a.s,.slice A2 a.args.length c2] 81)):=by go_grown
   have hzy:(wr.alloc (.cells #[.int .i64 a.kind,.int .i64 a.n,.string a.bT,.string a.s,.slice A2 a.args.length c2] 81)).heap.size=wr.heap.size+1:=by simp
   generalize wr.alloc (.cells #[.int .i64 a.kind,.int .i64 a.n,.string a.bT,.string a.s,.slice A2 a.args.length c2] 81)=W4 at vZ hby hzy⊢;have y0:=vZ.at_ 0 _ rfl;have y1:=vZ.at_ 1 _ rfl;have y2:=vZ.at_ 2 _ rfl;have y3:=vZ.at_ 3 _ rfl;have y4:=vZ.at_ 4 _ rfl;have hrc:=xK.out a HM.out _ W4 (aS zy.out hby) (dN.stays.later HR.out hby (bg hF zy.out));rw[HT.out,HZ.out]at hrc;have hO4:=hO.out.below aY.stays hby;have Uz:=hBt.out.later hby hBt.out.lt;have hb4:=BW.out.trans (hby.mono BW.out.size);obtain⟨JR,zl,TB,HB4⟩:=au hrc hO4 Uz hb4;clear hrc hO4 Uz hb4;clear hc0 hc1 hc2 hc3 hc4 vZ hby hzy
   by_cases hz0:z=0
   ·subst hz0;go_wp2_with fail;refine JR.out.mono ?_;rintro e W5 ⟨rfl,hb5⟩;have sF:=zl.out.below aY.stays hb5;have Aa:=TB.out.later hb5 TB.out.lt;have uG:=HB4.out.trans (hb5.mono HB4.out.size);have n0:=Aa.at_ 0 _ rfl;have nf:=Aa.free 0;have UD:=Aa.lt;clear y0 y1 y2 y3 y4;obtain⟨xJ,aci,kG,F5⟩:=au sF Aa uG UD;clear sF Aa uG UD;clear hb5;go_wp2_with(at_builtin;go_must((refine bH aY.stays (.string ⟨#[]⟩) [.string T] T rfl rfl underlying23 (bytes:=16) (by kernel_rfl) xJ.out rfl rfl (by decide) rfl rfl (show aY W5 none_ _ _ from⟨rfl,Dn⟩) (aY.one (w:=W5) (F:=none_) _ _ ⟨rfl,Dn⟩) (fun k hk=>hk.elim) (by unfold maxLen;have:=JK.out;omega) (by have:=JK.out;omega) (by have:=F5.out;have:=Xx.out;omega) ?_);(intro A6 c6 W6 mV hgr _;have hb6:=kG.out.trans (hgr.below (B:=W1.heap.size) (by have:=Xx.out;omega) kG.out.size);have Pv:=hgr.box aci.out (by have:=Xx.out;omega);clear n0 nf;have n0:=Pv.at_ 0 _ rfl;have nf:=Pv.free 0;have uq:=Lib.hid mV;have kH:=Lib.hid hb6;have acj:=Lib.hid Pv;clear mV hgr hb6 Pv)));go_roundg (args.length-(jj+1))
    case measure=>omega
    case rel=>
     refine⟨jj+1,c6,A6,L++ [T],by omega,by omega,by go_num,aside ?_,aside (fO (g:=fun a=>(f a).2) HX.out HZ.out hz.out),aside ?_,aside ?_,aside (kH.out.setCell (by simp) _)⟩
     ·rw[List.take_add_one,HX.out,List.map_append,hL.out];simp[HT.out]
     ·have h:=acj.out.put 0 (.slice A6 (L.length+1) c6);simpa using h
     ·have h:=(uq.out.wider aY.stays (F':=none_) (fun k hk=>hk.elim id id) (fun k hk=>hk.elim)).set aY.stays (p:=⟨W1.heap.size,0,none⟩) (by have:=Xx.out;simp;omega) (fun k hk=>hk.elim) (.slice A6 (L.length+1) c6);simpa using h
   ·have hzb:(z==0)=false:=by simp[hz0]
    have he:=HBAD.out jj a z HX.out HZ.out hz0 hz.out;subst he;go_wp2_with fail;refine JR.out.mono ?_;rintro e W5 ⟨rfl,hb5⟩;have hbx:=aS HB1.out (HB4.out.trans (hb5.mono HB4.out.size));have oq:=ah hbx;clear hbx;clear hb5;go_wp2_with fail
    go_ret2
    exact⟨rfl,oq.out⟩
  ·have hltz:¬(jj:Int)<(args.length:Int):=by omega
   obtain rfl:jj=args.length:=by omega
   obtain⟨W7,rfl⟩:∃W,W=wr:=⟨_,rfl⟩;have he:=jk.out hz.out;have hL2:L=args.map fun a=>(f a).1:=by rw[hL.out,List.take_length]
   have vG:L.length=args.length:=by rw[hL2,List.length_map]
   rw[←hL2]at he;have uF:∀s∈L,okS s:=fun s hs=>by rw[hL2]at hs;obtain⟨a,_,rfl⟩:=List.mem_map.1 hs;exact xH.out a
   have hsl:=hO.out.slice aY.stays (jZ:=16) (F':=old W7.heap.size) (fun k hk=>hk.elim) (fun k h1 h2=>h2) (by omega) (by omega);have hB1:=vk.out.later BW.out vk.out.lt;have Dj:=hBt.out;have hB2:=Dj;have hB3:=Dj;have x0:=hB1.at_ 0 _ rfl;have n0:=Dj.at_ 0 _ rfl;obtain⟨p,q,rfl⟩:=SL (vG.trans H2.out);have hop:=uF p (by simp);have hoq:=uF q (by simp);obtain⟨b1,off,ds,hB,jc,hds,⟨rfl,_⟩,hcell⟩:=hsl.at_ (k:=0) (by simp);have hp0:=hcell 0 _ rfl;obtain⟨b2,off2,ds2,hB',KT,QV,⟨rfl,_⟩,hcell2⟩:=hsl.at_ (k:=1) (by simp);have hq0:=hcell2 0 _ rfl;subst hB;injection hB' with hB'
   injection hB' with e1 e2
   subst e1;subst e2;simp only[Nat.zero_mul,Nat.one_mul,Nat.add_zero,List.getElem_cons_zero,List.getElem_cons_succ]at hp0 hq0;obtain⟨HE,cO⟩:=aj he hbw;clear he hbw;clear hcell hcell2 hds QV hsl hL2 vG uF hz hO hB1 hB2 hB3;have hel:=fun U=>zQ p U hop
   have he:E=if(elemOf p).isSome=true∧(q.toList== [105,110,116])=true then((elemOf p).getD ⟨#[]⟩,0)else(⟨#[]⟩,8):=by rw[HE.out];unfold atR nth iT;rw[Bj];rfl
   simp only[List.length_cons,List.length_nil,Nat.zero_add]at*;generalize(elemOf p).getD ⟨#[]⟩=R at hel he;generalize(elemOf p).isSome=z1 at hel he;have HEL:=ah hel;clear hel Dj hBt;cases z1;all_goals cases h3:(q.toList== [105,110,116])
   all_goals
    have hE2:=he;rw[h3]at hE2;simp at hE2;subst hE2;clear he;go_wp2_with fail;refine(HEL.out _).mono ?_;rintro e w' ⟨rfl,rfl⟩;go_wp2_with fail
    go_ret2
    exact⟨rfl,cO.out⟩
theorem afN(b:Nat)(v:Int)(o s:ByteArray)(na:Nat)(A:Option Addr)(c:Nat)(E:ByteArray×Int)(w:World)
  (hc:∀U,Below w.heap.size w U→Calls prog 161 #[.pointer (some ⟨b,0,none⟩),.agg #[.int .i64 4,.int .i64 v,.string o,.string s,.slice A na c]] U fun e w'=>e=.returned (.tuple #[.string E.1,.int .i64 E.2])∧Below U.heap.size U w'):
  Calls prog 97 #[.pointer (some ⟨b,0,none⟩),.agg #[.int .i64 4,.int .i64 v,.string o,.string s,.slice A na c]] w fun e w'=>
   e=.returned (.tuple #[.string E.1,.int .i64 E.2])∧Below w.heap.size w w':=by
 have HC:=ah hc;clear hc;go_enter func97,ntmps97;go_upto_region 1 with fail
 have ql:=Box.made w 81 #[.int .i64 4,.int .i64 v,.string o,.string s,.slice A na c];have hbe:Below w.heap.size w (w.alloc (.cells #[.int .i64 4,.int .i64 v,.string o,.string s,.slice A na c] 81)):=by go_grown
 have hze:(w.alloc (.cells #[.int .i64 4,.int .i64 v,.string o,.string s,.slice A na c] 81)).heap.size=w.heap.size+1:=by simp
 generalize w.alloc (.cells #[.int .i64 4,.int .i64 v,.string o,.string s,.slice A na c] 81)=W1 at ql hbe hze⊢;have x0:=ql.at_ 0 _ rfl;have x1:=ql.at_ 1 _ rfl;have x2:=ql.at_ 2 _ rfl;have x3:=ql.at_ 3 _ rfl;have x4:=ql.at_ 4 _ rfl;have Hb:=ah hbe;clear hbe;clear ql hze;go_wp2_with fail;refine(HC.out _ Hb.out).mono ?_;rintro e W2 ⟨rfl,hb2⟩;have hbw:=aS Hb.out hb2;have cO:=ah hbw;clear hbw;clear hb2 x0 x1 x2 x3 x4;go_wp2_with fail
 go_ret2
 exact⟨rfl,cO.out⟩
theorem aej{m:Module}{l:List Import}{own:gU}{ps:List Known}{mx:Int}(hps:∀p∈ps,okS p.dV)(hR:∀o,nN kR.name (eU m l own o).funcs):∀n:Nat,acV n (ZW m l own ps n) mx m l own ps
 |0=>fun _ _ _ _ _ _ _ _ _ _ _ _ _ _ _ _ _ _ _ h=>by cases h
 |n+1=>by
  have ih:=aej hps hR n (m:=m) (l:=l) (own:=own) (mx:=mx);have hok:=YB hps n (m:=m) (l:=l) (own:=own);intro x b cs F w U1 u1 T1 e1 T2 e2 L1 l1 T3 e3 T4 e4 P1 p1 h hS hx hM;obtain⟨A,c,rfl⟩:=dN.form hx;obtain⟨k,v,o,s,args⟩:=x;simp only[Ex.kind,Ex.n,Ex.bT,Ex.s,Ex.args]at*;obtain⟨h8,hall,hc⟩:=Us h;have hA:=(ZH rfl hx).1;rcases hc with ⟨rfl,_⟩|⟨rfl,_⟩|⟨rfl,_⟩|⟨rfl,_⟩|⟨rfl,h2⟩|⟨rfl,h2⟩|⟨rfl,h2⟩
  ·exact aiv v o s args.length A c
  ·exact aiy v o s args.length A c
  ·exact aiw v o s args.length A c hS
  ·exact afN b v o s args.length A c _ w fun U hU=>ac5 n _ mx m l own ps ih hok v o s args h8 hall b A c F U (hS.later hU) (hA.up dN.stays hS.low hU) ((hU.cell (World.block_lt_of_cell? w _ hM)).trans hM) (hR o) _ rfl
  ·exact aix n _ mx m l own ps ih hok v o s args h8 hall h2 b A c F w hS hA hM
  ·exact aek n _ mx m l own ps ih hok v o s args h8 hall h2 b A c F w hS hA hM
  ·exact aln n _ mx m l own ps ih hok v o s args h8 hall h2 b A c F w hS hA hM
end Go.Proofs.YtjaladhdnbhliaaGreatDoor
