/- Parts. -/
import Derived.Test.YtjaladhdnbhliaaGreatDoorQOpen
set_option maxHeartbeats 2000000
set_option maxRecDepth 100000
namespace Go.Proofs.YtjaladhdnbhliaaGreatDoor
open Go.Proofs.Tryz
open Go.RowKit Go.Shelf
def isS(x y:ByteArray):Bool:=decide (y=x)
def o9(l:List ByteArray)(x:ByteArray):Bool:=l.any (isS x)
theorem Yy(v:Value)(l:List ByteArray)(F:aV)(x:ByteArray)(w:World)(hv:SliceOf aY 1 16 w F v l):
  Calls prog 158 #[v,.string x] w fun e w'=>e=.returned (.int .i64 (fidx (isS x) l))∧w=w':=by
 obtain⟨A,cap,rfl,hlc,hcm,hl2,hl3⟩:=hv.form;go_enter func158,ntmps158;go_wp2;go_loopg [5,8] l.length (fun gg _ s8 wr=>∃kk:Nat,kk≤l.length∧l.length-kk≤gg∧s8=.int .i64 kk∧wr=w∧Aside (∀j,j<kk→∀y,l[j]? =some y→isS x y=false))
 case atStart=>exact⟨0,Nat.zero_le _,by omega,rfl,rfl,(show Aside _ from fun j hj=>absurd hj (Nat.not_lt_zero _))⟩
 case round=>
  obtain⟨kk,hkk,hg,rfl,rfl,A1⟩:=hrel
  by_cases hlt:kk<l.length
  ·have hltz:(kk:Int)<(l.length:Int):=by omega
   obtain⟨b,off,cs,rfl,hb,hcs,⟨rfl,_⟩,hcell⟩:=hv.at_ hlt;have hc0:=hcell 0 _ rfl;simp only[Nat.mul_one,Nat.add_zero]at hc0;clear hcell hv;cases hq:isS x l[kk]with
   |true=>
    have hE:(x.toList==l[kk].toList)=true:=by rw[str_eq];simp only[isS,decide_eq_true_eq]at hq;simp[hq]
    have HQ:=Lib.hid hq;clear hq;go_wp2;go_ret;exact⟨by rw[qV hlt HQ.out A1.out];rfl,rfl⟩
   |false=>
    have hE:(x.toList==l[kk].toList)=false:=by rw[str_eq];simp only[isS,decide_eq_false_iff_not]at hq;simp;exact fun h=>hq h.symm
    have HQ:=Lib.hid hq;clear hq;go_wp2;go_roundg (l.length-(kk+1))
    case measure=>omega
    case rel=>exact⟨kk+1,by omega,by omega,by go_num,rfl,(show Aside _ from nG hlt HQ.out A1.out)⟩
  ·have hltz:¬(kk:Int)<(l.length:Int):=by omega
   obtain rfl:kk=l.length:=by omega
   go_wp2;go_ret;exact⟨by rw[oK A1.out];rfl,rfl⟩
theorem qL(v:Value)(l:List ByteArray)(F:aV)(x:ByteArray)(w:World)(hv:SliceOf aY 1 16 w F v l):
  Calls prog 96 #[v,.string x] w fun e w'=>e=.returned (.bool (o9 l x))∧w=w':=by
 have hcall:=Yy v l F x w hv;have hn:=Lib.hid (qW (isS x) l);generalize fidx (isS x) l=z at hcall hn;clear hv;have HC:=Lib.hid hcall;clear hcall;go_enter func96,ntmps96;go_wp2_with fail;refine HC.out.mono ?_;rintro e w' ⟨rfl,rfl⟩;go_wp2;go_ret;exact⟨by unfold o9;rw[←hn.out];rfl,rfl⟩
theorem Ad(v:Value)(l:List ByteArray)(F:aV)(x:ByteArray)(w:World)(hv:SliceOf aY 1 16 w F v l):
  Calls prog 42 #[v,.string x] w fun e w'=>e=.returned (.bool (o9 l x))∧w=w':=by
 obtain⟨A,cap,rfl,hlc,hcm,hl2,hl3⟩:=hv.form;go_enter func42,ntmps42;go_wp2;go_loopg [5] l.length (fun gg s5 wr=>∃kk:Nat,kk≤l.length∧l.length-kk≤gg∧s5=.int .i64 kk∧wr=w∧Aside (∀j,j<kk→∀y,l[j]? =some y→isS x y=false))
 case atStart=>exact⟨0,Nat.zero_le _,by omega,rfl,rfl,(show Aside _ from fun j hj=>absurd hj (Nat.not_lt_zero _))⟩
 case round=>
  obtain⟨kk,hkk,hg,rfl,rfl,A1⟩:=hrel
  by_cases hlt:kk<l.length
  ·have hltz:(kk:Int)<(l.length:Int):=by omega
   obtain⟨b,off,cs,rfl,hb,hcs,⟨rfl,_⟩,hcell⟩:=hv.at_ hlt;have hc0:=hcell 0 _ rfl;simp only[Nat.mul_one,Nat.add_zero]at hc0;clear hcell hv;cases hq:isS x l[kk]with
   |true=>
    have hE:(l[kk].toList==x.toList)=true:=by rw[str_eq];simp only[isS,decide_eq_true_eq]at hq;simp[hq]
    have HQ:=Lib.hid hq;clear hq;go_wp2;go_ret;exact⟨dw (Ba (aK hlt) HQ.out).symm,rfl⟩
   |false=>
    have hE:(l[kk].toList==x.toList)=false:=by rw[str_eq];simp only[isS,decide_eq_false_iff_not]at hq;simp;exact hq
    have HQ:=Lib.hid hq;clear hq;go_wp2;go_roundg (l.length-(kk+1))
    case measure=>omega
    case rel=>exact⟨kk+1,by omega,by omega,by go_num,rfl,(show Aside _ from nG hlt HQ.out A1.out)⟩
  ·have hltz:¬(kk:Int)<(l.length:Int):=by omega
   obtain rfl:kk=l.length:=by omega
   go_wp2;go_ret;exact⟨dw (wK (aJ _) A1.out).symm,rfl⟩
def iT(a b:ByteArray):Bool:=a.toList==b.toList
theorem afe(a b:ByteArray):iT a b=decide (a=b):=str_eq a b
def yw(a b:Known):Bool:=iT a.name b.name&&iT a.dV b.dV
theorem PX(a b:Known)(w:World):
  (binOp .neq 100 (.agg #[.string a.name,.string a.dV]) (.agg #[.string b.name,.string b.dV])).run prog w=.ok (.bool (!(yw a b))) w:=by
 have u3:=underlying9;have a3:=isAgg9;have z3:=sizeOf9;have hS:prog.underlying 100=some (.struct (prog.fieldsOf 100)):=by kernel_rfl
 have hp:prog.stoodInHeld 100=false:=by kernel_rfl
 rw[run_neq_struct,show(10000:Nat)=9999+1 from rfl,run_equalIn_agg w 9999 100 _ _ hS hp];simp only[Program.fieldsOf,underlying100];go_simp
 by_cases h1:a.name.toList=b.name.toList<;>by_cases h2:a.dV.toList=b.dV.toList<;>simp[yw,iT,h1,h2]
theorem Yd(v u:Value)(l m:List ByteArray)(F G:aV)(w:World)(hF:∀k,F k→k<w.heap.size)(hG:∀k,G k→k<w.heap.size)(hv:SliceOf aY 1 16 w F v l)(hu:SliceOf aY 1 16 w G u m):
  Calls prog 27 #[v,u] w fun e w'=>e=.returned (.bool (listEq iT l m))∧Below w.heap.size w w':=by
 obtain⟨A,cap,rfl,hlc,hcm,hl2,hl3⟩:=hv.form;obtain⟨A',cap',rfl,akU,hcm',oW,pG⟩:=hu.form
 by_cases hlen:l.length=m.length
 ·have hz:((l.length:Int)!=(m.length:Int))=false:=by simp[hlen]
  have HL:=ah hlen;have hle:m.length≤l.length:=by omega
  clear hlen;go_enter func27,ntmps27;go_wp2;go_loopg [5,13] l.length (fun gg _ s13 wr=>∃kk:Nat,kk≤l.length∧l.length-kk≤gg∧s13=.int .i64 kk∧Aside (Below w.heap.size w wr)∧Aside (∀j,j<kk→∀x y,l[j]? =some x→m[j]? =some y→iT x y=true))
  case atStart=>exact⟨0,Nat.zero_le _,by omega,rfl,Below.refl _ w,(show Aside _ from fun j hj=>absurd hj (Nat.not_lt_zero _))⟩
  case round=>
   obtain⟨kk,hkk,hg,rfl,BW,A1⟩:=hrel
   by_cases hlt:kk<l.length
   ·have hltz:(kk:Int)<(l.length:Int):=by omega
    have hlt':kk<m.length:=by have:=HL.out;omega
    have ZR:(kk:Int)<(m.length:Int):=by omega
    obtain⟨b,off,cs,rfl,hb,hcs,⟨rfl,_⟩,hcell⟩:=(hv.stays aY.stays (fun _ h=>h) (Keeps.of_below BW.out hF)).at_ hlt;obtain⟨b',off',cs',rfl,hb',hcs',⟨rfl,_⟩,hcell'⟩:=(hu.stays aY.stays (fun _ h=>h) (Keeps.of_below BW.out hG)).at_ hlt';have hc0:=hcell 0 _ rfl;have hd0:=hcell' 0 _ rfl;simp only[Nat.mul_one,Nat.add_zero]at hc0 hd0;clear hcell hcell' hv hu;have hx:=aK hlt;have hy:=aK hlt';generalize l[kk]=x at*;generalize m[kk]=y at*;have HX:=Lib.hid hx;have HY:=Lib.hid hy;clear hx hy;cases hq:iT x y with
    |true=>
     have HQ:=ah hq;have hE:(x.toList==y.toList)=true:=hq;clear hq;go_wp2;go_quiet(fail);go_wp2;go_roundg (l.length-(kk+1))
     case measure=>omega
     case rel=>exact⟨kk+1,by omega,by omega,by go_num,below_drewN BW.out _,(show Aside _ from qx HX.out HY.out HQ.out A1.out)⟩
    |false=>
     have HQ:=ah hq;have hE:(x.toList==y.toList)=false:=hq;clear hq;go_wp2;go_quiet(fail);go_wp2;go_ret;exact⟨dw (jw HX.out HY.out HQ.out).symm,below_drewN BW.out _⟩
   ·have hltz:¬(kk:Int)<(l.length:Int):=by omega
    obtain rfl:kk=l.length:=by omega
    go_wp2;go_ret;exact⟨dw (tV HL.out A1.out).symm,BW.out⟩
 ·have hz:((l.length:Int)!=(m.length:Int))=true:=by simp;omega
  have HL:=ah hlen;clear hlen;go_enter func27,ntmps27;go_wp2;go_ret;exact⟨dw (oG HL.out).symm,Below.refl _ _⟩
def Ji{α:Type}(f:α→ByteArray)(l:List α)(t:ByteArray)(i:Nat):Bool:=match l[i]? with|some x=>decide (f x=t)|none=>false
theorem PG{α:Type}{f:α→ByteArray}{l:List α}{t:ByteArray}{i:Nat}{x:α}(h:l[i]? =some x):Ji f l t i=decide (f x=t):=by unfold Ji;rw[h]
theorem PE{α:Type}{f:α→ByteArray}{l:List α}{t:ByteArray}{i:Nat}(h:l.length≤i):Ji f l t i=false:=by unfold Ji;rw[List.getElem?_eq_none h]
theorem JC{i:Nat}{a b:Bool}(h:a=b):Ending.returned (.tuple #[.int .i64 (i:Int),.bool a])=.returned (.tuple #[.int .i64 (i:Int),.bool b]):=by rw[h]
theorem Oh(v:Value)(l:List Known)(F:aV)(t:ByteArray)(g:Nat)(lb:Array Value)(w:World)(eg:∀args w,(callFunc g args).run prog w=.ok (.enter g args) w)
  (hF:∀k,F k→k<w.heap.size) (hv:SliceOf aW 2 32 w F v l)
  (hp:∀W x cs,x∈l→Below w.heap.size w W→aW W F cs x→Calls prog g (#[.agg cs.toArray,.string t]++lb) W fun e w'=>e=.returned (.int .i64 (Lib.compareBytes x.name.data.toList t.data.toList))∧Below W.heap.size W w'):
  Calls prog 55 #[v,.string t,.func (.func g) #[] lb] w fun e w'=>∃i:Nat,Parts Known.name l t i∧e=.returned (.tuple #[.int .i64 (i:Int),.bool (Ji Known.name l t i)])∧Below w.heap.size w w':=by
 obtain⟨A,cap,rfl,hlc,hcm,hl2,hl3⟩:=hv.form;go_enter func55,ntmps55;go_wp2_with fail;go_loopg [9,10,11] l.length (fun gg s9 s10 _ wr=>∃i j:Nat,i≤j∧j≤l.length∧j-i≤gg∧s9=.int .i64 i∧s10=.int .i64 j∧Aside (Below w.heap.size w wr)∧Aside (∀x,0<i→l[i-1]? =some x→nT x.name t=true)∧Aside (∀x,l[j]? =some x→nT x.name t=false))
 case atStart=>exact⟨0,l.length,Nat.zero_le _,aJ _,by omega,rfl,rfl,Below.refl _ w,(show Aside _ from fun x h=>absurd h (Nat.lt_irrefl _)),(show Aside _ from fun x h=>by simp at h)⟩
 case round=>
  obtain⟨i,j,hij,hjl,hg,rfl,rfl,BW,L1,R1⟩:=hrel
  by_cases hlt:i<j
  ·have hltz:(i:Int)<(j:Int):=by omega
   have hh:(i+j) / 2<j:=by omega
   have hh0:i≤(i+j) / 2:=by omega
   have hhl:(i+j) / 2<l.length:=by omega
   obtain⟨b,off,cs,rfl,hb,hcs,hr,hcell⟩:=(hv.up aW.stays hF BW.out).at_ hhl;obtain⟨m0,m1,rfl⟩:=xE hcs;have hc0:=hcell 0 m0 rfl;have hc1:=hcell 1 m1 rfl;simp only[Nat.add_zero]at hc0;have hcall:=hp wr l[(i+j) / 2] [m0,m1] (List.getElem_mem hhl) BW.out hr;have hx:=aK hhl;generalize l[(i+j) / 2]=x at*;have hcm:=Kv x.name t;generalize Lib.compareBytes x.name.data.toList t.data.toList=z at hcall hcm;obtain⟨HX,HC⟩:=aj hx hcall;clear hr hcell hp hv hx hcall;cases hq:nT x.name t with
   |true=>
    rw[hq]at hcm;have hz:z<0:=by simpa using hcm
    have HQ:=ah hq;clear hcm hq;go_wp2_with fail;refine HC.out.mono ?_;rintro e w' ⟨rfl,hb'⟩;have HB:=Lib.hid (BW.out.trans (hb'.mono BW.out.size));clear hb';go_wp2_with fail;go_roundg (j-((i+j) / 2+1))
    case measure=>omega
    case rel=>exact⟨(i+j) / 2+1,j,by omega,hjl,by omega,by go_num,rfl,HB.out,(show Aside _ from fun y _ hy=>by rw[Nat.add_sub_cancel,HX.out]at hy;injection hy with hy;rw[←hy];exact HQ.out),R1⟩
   |false=>
    rw[hq]at hcm;have hz:¬z<0:=by simpa using hcm
    have HQ:=ah hq;clear hcm hq;go_wp2_with fail;refine HC.out.mono ?_;rintro e w' ⟨rfl,hb'⟩;have HB:=Lib.hid (BW.out.trans (hb'.mono BW.out.size));clear hb';go_wp2_with fail;go_roundg ((i+j) / 2-i)
    case measure=>omega
    case rel=>exact⟨i,(i+j) / 2,by omega,by omega,by omega,rfl,by go_num,HB.out,L1,(show Aside _ from fun y hy=>by rw[HX.out]at hy;injection hy with hy;rw[←hy];exact HQ.out)⟩
  ·have hltz:¬(i:Int)<(j:Int):=by omega
   obtain rfl:i=j:=by omega
   have HP:=Lib.hid (show Parts Known.name l t i from⟨hjl,L1.out,R1.out⟩)
   by_cases hend:i<l.length
   ·have adJ:(i:Int)<(l.length:Int):=by omega
    obtain⟨b,off,cs,rfl,hb,hcs,hr,hcell⟩:=(hv.up aW.stays hF BW.out).at_ hend;obtain⟨m0,m1,rfl⟩:=xE hcs;have hc0:=hcell 0 m0 rfl;have hc1:=hcell 1 m1 rfl;simp only[Nat.add_zero]at hc0;have hcall:=hp wr l[i] [m0,m1] (List.getElem_mem hend) BW.out hr;have hx:=aK hend;generalize l[i]=x at*;have hcm:=OV x.name t;generalize Lib.compareBytes x.name.data.toList t.data.toList=z at hcall hcm;obtain⟨HX,HC,HM⟩:=ak hx hcall hcm;clear hr hcell hp hv hx hcall hcm;go_wp2_with fail;refine HC.out.mono ?_;rintro e w' ⟨rfl,hb'⟩;have HB:=Lib.hid (BW.out.trans (hb'.mono BW.out.size));clear hb';go_wp2_with fail
    go_ret2
    exact⟨i,HP.out,JC (by rw[PG HX.out,←HM.out];rfl),HB.out⟩
   ·have adJ:¬(i:Int)<(l.length:Int):=by omega
    have HN:=Lib.hid (PE (f:=Known.name) (t:=t) (show l.length≤i by omega));clear hp hv;go_wp2_with fail
    go_ret2
    exact⟨i,HP.out,JC HN.out.symm,BW.out⟩
theorem Vu(v:Value)(l:List kR)(F:aV)(t:ByteArray)(g:Nat)(lb:Array Value)(w:World)(eg:∀args w,(callFunc g args).run prog w=.ok (.enter g args) w)
  (hF:∀k,F k→k<w.heap.size) (hv:SliceOf fB 3 56 w F v l)
  (hp:∀W x cs,x∈l→Below w.heap.size w W→fB W F cs x→Calls prog g (#[.agg cs.toArray,.string t]++lb) W fun e w'=>e=.returned (.int .i64 (Lib.compareBytes x.name.data.toList t.data.toList))∧Below W.heap.size W w'):
  Calls prog 58 #[v,.string t,.func (.func g) #[] lb] w fun e w'=>∃i:Nat,Parts kR.name l t i∧e=.returned (.tuple #[.int .i64 (i:Int),.bool (Ji kR.name l t i)])∧Below w.heap.size w w':=by
 obtain⟨A,cap,rfl,hlc,hcm,hl2,hl3⟩:=hv.form;go_enter func58,ntmps58;go_wp2_with fail;go_loopg [9,10,11] l.length (fun gg s9 s10 _ wr=>∃i j:Nat,i≤j∧j≤l.length∧j-i≤gg∧s9=.int .i64 i∧s10=.int .i64 j∧Aside (Below w.heap.size w wr)∧Aside (∀x,0<i→l[i-1]? =some x→nT x.name t=true)∧Aside (∀x,l[j]? =some x→nT x.name t=false))
 case atStart=>exact⟨0,l.length,Nat.zero_le _,aJ _,by omega,rfl,rfl,Below.refl _ w,(show Aside _ from fun x h=>absurd h (Nat.lt_irrefl _)),(show Aside _ from fun x h=>by simp at h)⟩
 case round=>
  obtain⟨i,j,hij,hjl,hg,rfl,rfl,BW,L1,R1⟩:=hrel
  by_cases hlt:i<j
  ·have hltz:(i:Int)<(j:Int):=by omega
   have hh:(i+j) / 2<j:=by omega
   have hh0:i≤(i+j) / 2:=by omega
   have hhl:(i+j) / 2<l.length:=by omega
   obtain⟨b,off,cs,rfl,hb,hcs,hr,hcell⟩:=(hv.up fB.stays hF BW.out).at_ hhl;obtain⟨m0,m1,m2,rfl⟩:=AU hcs;have hc0:=hcell 0 m0 rfl;have hc1:=hcell 1 m1 rfl;have hc2:=hcell 2 m2 rfl;simp only[Nat.add_zero]at hc0;have hcall:=hp wr l[(i+j) / 2] [m0,m1,m2] (List.getElem_mem hhl) BW.out hr;have hx:=aK hhl;generalize l[(i+j) / 2]=x at*;have hcm:=Kv x.name t;generalize Lib.compareBytes x.name.data.toList t.data.toList=z at hcall hcm;obtain⟨HX,HC⟩:=aj hx hcall;clear hr hcell hp hv hx hcall;cases hq:nT x.name t with
   |true=>
    rw[hq]at hcm;have hz:z<0:=by simpa using hcm
    have HQ:=ah hq;clear hcm hq;go_wp2_with fail;refine HC.out.mono ?_;rintro e w' ⟨rfl,hb'⟩;have HB:=Lib.hid (BW.out.trans (hb'.mono BW.out.size));clear hb';go_wp2_with fail;go_roundg (j-((i+j) / 2+1))
    case measure=>omega
    case rel=>exact⟨(i+j) / 2+1,j,by omega,hjl,by omega,by go_num,rfl,HB.out,(show Aside _ from fun y _ hy=>by rw[Nat.add_sub_cancel,HX.out]at hy;injection hy with hy;rw[←hy];exact HQ.out),R1⟩
   |false=>
    rw[hq]at hcm;have hz:¬z<0:=by simpa using hcm
    have HQ:=ah hq;clear hcm hq;go_wp2_with fail;refine HC.out.mono ?_;rintro e w' ⟨rfl,hb'⟩;have HB:=Lib.hid (BW.out.trans (hb'.mono BW.out.size));clear hb';go_wp2_with fail;go_roundg ((i+j) / 2-i)
    case measure=>omega
    case rel=>exact⟨i,(i+j) / 2,by omega,by omega,by omega,rfl,by go_num,HB.out,L1,(show Aside _ from fun y hy=>by rw[HX.out]at hy;injection hy with hy;rw[←hy];exact HQ.out)⟩
  ·have hltz:¬(i:Int)<(j:Int):=by omega
   obtain rfl:i=j:=by omega
   have HP:=Lib.hid (show Parts kR.name l t i from⟨hjl,L1.out,R1.out⟩)
   by_cases hend:i<l.length
   ·have adJ:(i:Int)<(l.length:Int):=by omega
    obtain⟨b,off,cs,rfl,hb,hcs,hr,hcell⟩:=(hv.up fB.stays hF BW.out).at_ hend;obtain⟨m0,m1,m2,rfl⟩:=AU hcs;have hc0:=hcell 0 m0 rfl;have hc1:=hcell 1 m1 rfl;have hc2:=hcell 2 m2 rfl;simp only[Nat.add_zero]at hc0;have hcall:=hp wr l[i] [m0,m1,m2] (List.getElem_mem hend) BW.out hr;have hx:=aK hend;generalize l[i]=x at*;have hcm:=OV x.name t;generalize Lib.compareBytes x.name.data.toList t.data.toList=z at hcall hcm;obtain⟨HX,HC,HM⟩:=ak hx hcall hcm;clear hr hcell hp hv hx hcall hcm;go_wp2_with fail;refine HC.out.mono ?_;rintro e w' ⟨rfl,hb'⟩;have HB:=Lib.hid (BW.out.trans (hb'.mono BW.out.size));clear hb';go_wp2_with fail
    go_ret2
    exact⟨i,HP.out,JC (by rw[PG HX.out,←HM.out];rfl),HB.out⟩
   ·have adJ:¬(i:Int)<(l.length:Int):=by omega
    have HN:=Lib.hid (PE (f:=kR.name) (t:=t) (show l.length≤i by omega));clear hp hv;go_wp2_with fail
    go_ret2
    exact⟨i,HP.out,JC HN.out.symm,BW.out⟩
end Go.Proofs.YtjaladhdnbhliaaGreatDoor
