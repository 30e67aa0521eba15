/- Parts. -/
import Derived.Test.YtjaladhdnbhliaaGreatDoorQBase
import Derived.Test.YtjaladhdnbhliaaGreatDoorRows
set_option maxHeartbeats 1000000
namespace Go.Proofs.YtjaladhdnbhliaaGreatDoor
open Go.Proofs.Tryz
open Go.RowKit
def Xy:List Value→Value
 |[c]=>c
 |cs=>.agg cs.toArray
theorem xE{cs:List Value}(h:cs.length=2):∃a b,cs= [a,b]:=by
 match cs,h with|[a,b],_=>exact⟨a,b,rfl⟩
theorem AU{cs:List Value}(h:cs.length=3):∃a b c,cs= [a,b,c]:=by
 match cs,h with|[a,b,c],_=>exact⟨a,b,c,rfl⟩
theorem xU{cs:List Value}(h:cs.length=4):∃a b c d,cs= [a,b,c,d]:=by
 match cs,h with|[a,b,c,d],_=>exact⟨a,b,c,d,rfl⟩
theorem KI{cs:List Value}(h:cs.length=5):∃a b c d e,cs= [a,b,c,d,e]:=by
 match cs,h with|[a,b,c,d,e],_=>exact⟨a,b,c,d,e,rfl⟩
theorem SK{cs:List Value}(h:cs.length=12):∃a b c d e f g i j k l m,cs= [a,b,c,d,e,f,g,i,j,k,l,m]:=by
 match cs,h with|[a,b,c,d,e,f,g,i,j,k,l,m],_=>exact⟨a,b,c,d,e,f,g,i,j,k,l,m,rfl⟩
theorem Jl(v:Value)(l:List UInt8)(F:aV)(g:Nat)(lb:Array Value)(p:UInt8→Bool)(w:World)(eg:∀args w,(callFunc g args).run prog w=.ok (.enter g args) w)
  (hF:∀k,F k→k<w.heap.size) (hv:SliceOf U8R 1 1 w F v l)
  (hp:∀W x cs,x∈l→Below w.heap.size w W→U8R W F cs x→Calls prog g (#[Xy cs]++lb) W fun e w'=>e=.returned (.bool (p x))∧Below W.heap.size W w'):
  Calls prog 237 #[v,.func (.func g) #[] lb] w fun e w'=>e=.returned (.int .i64 (fidx p l))∧Below w.heap.size w w':=by
 obtain⟨A,cap,rfl,hlc,hcm,hl2,hl3⟩:=hv.form;go_enter func237,ntmps237;go_wp2;go_loopg [5,8] l.length (fun gg _ s8 wr=>∃kk:Nat,kk≤l.length∧l.length-kk≤gg∧s8=.int .i64 kk∧Aside (Below w.heap.size w wr)∧Aside (∀j,j<kk→∀x,l[j]? =some x→p x=false))
 case atStart=>exact⟨0,Nat.zero_le _,by omega,rfl,Below.refl _ w,(show Aside _ from fun j hj=>absurd hj (Nat.not_lt_zero _))⟩
 case round=>
  obtain⟨kk,hkk,hg,rfl,BW,A1⟩:=hrel
  by_cases hlt:kk<l.length
  ·have hltz:(kk:Int)<(l.length:Int):=by omega
   obtain⟨b,off,cs,rfl,hb,hcs,hr,hcell⟩:=(hv.stays U8R.stays (fun _ h=>h) (Keeps.of_below BW.out hF)).at_ hlt;obtain⟨c0,rfl⟩:=List.length_eq_one_iff.1 hcs;have hc0:=hcell 0 c0 rfl;simp only[Nat.mul_one,Nat.add_zero]at hc0;have hcall:=hp wr l[kk] [c0] (List.getElem_mem hlt) BW.out hr;simp only[Xy]at hcall;clear hr hcell hp hv;cases hq:p l[kk]with
   |true=>
    rw[hq]at hcall;have HC:=Lib.hid hcall;clear hcall;have HQ:=Lib.hid hq;clear hq;go_wp2_with fail;refine HC.out.mono ?_;rintro e w' ⟨rfl,hb'⟩;go_wp2;go_ret;exact⟨by rw[qV hlt HQ.out A1.out];rfl,BW.out.trans (hb'.mono BW.out.size)⟩
   |false=>
    rw[hq]at hcall;have HC:=Lib.hid hcall;clear hcall;have HQ:=Lib.hid hq;clear hq;go_wp2_with fail;refine HC.out.mono ?_;rintro e w' ⟨rfl,hb'⟩;go_wp2;go_roundg (l.length-(kk+1))
    case measure=>omega
    case rel=>exact⟨kk+1,by omega,by omega,by go_num,BW.out.trans (hb'.mono BW.out.size),(show Aside _ from nG hlt HQ.out A1.out)⟩
  ·have hltz:¬(kk:Int)<(l.length:Int):=by omega
   obtain rfl:kk=l.length:=by omega
   go_wp2;go_ret;exact⟨by rw[oK A1.out];rfl,BW.out⟩
theorem uy(v:Value)(l:List UInt8)(F:aV)(g:Nat)(lb:Array Value)(p:UInt8→Bool)(w:World)(eg:∀args w,(callFunc g args).run prog w=.ok (.enter g args) w)
  (hF:∀k,F k→k<w.heap.size) (hv:SliceOf U8R 1 1 w F v l)
  (hp:∀W x cs,x∈l→Below w.heap.size w W→U8R W F cs x→Calls prog g (#[Xy cs]++lb) W fun e w'=>e=.returned (.bool (p x))∧Below W.heap.size W w'):
  Calls prog 181 #[v,.func (.func g) #[] lb] w fun e w'=>e=.returned (.bool (l.any p))∧Below w.heap.size w w':=by
 have hcall:=Jl v l F g lb p w eg hF hv hp;have hn:=Lib.hid (qW p l);generalize fidx p l=z at hcall hn;clear hp hv;have HC:=Lib.hid hcall;clear hcall;go_enter func181,ntmps181;go_wp2_with fail;refine HC.out.mono ?_;rintro e w' ⟨rfl,hb'⟩;go_wp2;go_ret;exact⟨by rw[←hn.out];rfl,hb'⟩
theorem Ll(v:Value)(l:List ByteArray)(F:aV)(g:Nat)(lb:Array Value)(p:ByteArray→Bool)(w:World)(eg:∀args w,(callFunc g args).run prog w=.ok (.enter g args) w)
  (hF:∀k,F k→k<w.heap.size) (hv:SliceOf aY 1 16 w F v l)
  (hp:∀W x cs,x∈l→Below w.heap.size w W→aY W F cs x→Calls prog g (#[Xy cs]++lb) W fun e w'=>e=.returned (.bool (p x))∧Below W.heap.size W w'):
  Calls prog 115 #[v,.func (.func g) #[] lb] w fun e w'=>e=.returned (.int .i64 (fidx p l))∧Below w.heap.size w w':=by
 obtain⟨A,cap,rfl,hlc,hcm,hl2,hl3⟩:=hv.form;go_enter func115,ntmps115;go_wp2;go_loopg [5,8] l.length (fun gg _ s8 wr=>∃kk:Nat,kk≤l.length∧l.length-kk≤gg∧s8=.int .i64 kk∧Aside (Below w.heap.size w wr)∧Aside (∀j,j<kk→∀x,l[j]? =some x→p x=false))
 case atStart=>exact⟨0,Nat.zero_le _,by omega,rfl,Below.refl _ w,(show Aside _ from fun j hj=>absurd hj (Nat.not_lt_zero _))⟩
 case round=>
  obtain⟨kk,hkk,hg,rfl,BW,A1⟩:=hrel
  by_cases hlt:kk<l.length
  ·have hltz:(kk:Int)<(l.length:Int):=by omega
   obtain⟨b,off,cs,rfl,hb,hcs,hr,hcell⟩:=(hv.stays aY.stays (fun _ h=>h) (Keeps.of_below BW.out hF)).at_ hlt;obtain⟨c0,rfl⟩:=List.length_eq_one_iff.1 hcs;have hc0:=hcell 0 c0 rfl;simp only[Nat.mul_one,Nat.add_zero]at hc0;have hcall:=hp wr l[kk] [c0] (List.getElem_mem hlt) BW.out hr;simp only[Xy]at hcall;clear hr hcell hp hv;cases hq:p l[kk]with
   |true=>
    rw[hq]at hcall;have HC:=Lib.hid hcall;clear hcall;have HQ:=Lib.hid hq;clear hq;go_wp2_with fail;refine HC.out.mono ?_;rintro e w' ⟨rfl,hb'⟩;go_wp2;go_ret;exact⟨by rw[qV hlt HQ.out A1.out];rfl,BW.out.trans (hb'.mono BW.out.size)⟩
   |false=>
    rw[hq]at hcall;have HC:=Lib.hid hcall;clear hcall;have HQ:=Lib.hid hq;clear hq;go_wp2_with fail;refine HC.out.mono ?_;rintro e w' ⟨rfl,hb'⟩;go_wp2;go_roundg (l.length-(kk+1))
    case measure=>omega
    case rel=>exact⟨kk+1,by omega,by omega,by go_num,BW.out.trans (hb'.mono BW.out.size),(show Aside _ from nG hlt HQ.out A1.out)⟩
  ·have hltz:¬(kk:Int)<(l.length:Int):=by omega
   obtain rfl:kk=l.length:=by omega
   go_wp2;go_ret;exact⟨by rw[oK A1.out];rfl,BW.out⟩
theorem vF(v:Value)(l:List ByteArray)(F:aV)(g:Nat)(lb:Array Value)(p:ByteArray→Bool)(w:World)(eg:∀args w,(callFunc g args).run prog w=.ok (.enter g args) w)
  (hF:∀k,F k→k<w.heap.size) (hv:SliceOf aY 1 16 w F v l)
  (hp:∀W x cs,x∈l→Below w.heap.size w W→aY W F cs x→Calls prog g (#[Xy cs]++lb) W fun e w'=>e=.returned (.bool (p x))∧Below W.heap.size W w'):
  Calls prog 64 #[v,.func (.func g) #[] lb] w fun e w'=>e=.returned (.bool (l.any p))∧Below w.heap.size w w':=by
 have hcall:=Ll v l F g lb p w eg hF hv hp;have hn:=Lib.hid (qW p l);generalize fidx p l=z at hcall hn;clear hp hv;have HC:=Lib.hid hcall;clear hcall;go_enter func64,ntmps64;go_wp2_with fail;refine HC.out.mono ?_;rintro e w' ⟨rfl,hb'⟩;go_wp2;go_ret;exact⟨by rw[←hn.out];rfl,hb'⟩
theorem EW(v:Value)(l:List Import)(F:aV)(g:Nat)(lb:Array Value)(p:Import→Bool)(w:World)(eg:∀args w,(callFunc g args).run prog w=.ok (.enter g args) w)
  (hF:∀k,F k→k<w.heap.size) (hv:SliceOf aU 4 72 w F v l)
  (hp:∀W x cs,x∈l→Below w.heap.size w W→aU W F cs x→Calls prog g (#[Xy cs]++lb) W fun e w'=>e=.returned (.bool (p x))∧Below W.heap.size W w'):
  Calls prog 156 #[v,.func (.func g) #[] lb] w fun e w'=>e=.returned (.int .i64 (fidx p l))∧Below w.heap.size w w':=by
 obtain⟨A,cap,rfl,hlc,hcm,hl2,hl3⟩:=hv.form;go_enter func156,ntmps156;go_wp2;go_loopg [5,8] l.length (fun gg _ s8 wr=>∃kk:Nat,kk≤l.length∧l.length-kk≤gg∧s8=.int .i64 kk∧Aside (Below w.heap.size w wr)∧Aside (∀j,j<kk→∀x,l[j]? =some x→p x=false))
 case atStart=>exact⟨0,Nat.zero_le _,by omega,rfl,Below.refl _ w,(show Aside _ from fun j hj=>absurd hj (Nat.not_lt_zero _))⟩
 case round=>
  obtain⟨kk,hkk,hg,rfl,BW,A1⟩:=hrel
  by_cases hlt:kk<l.length
  ·have hltz:(kk:Int)<(l.length:Int):=by omega
   obtain⟨b,off,cs,rfl,hb,hcs,hr,hcell⟩:=(hv.stays aU.stays (fun _ h=>h) (Keeps.of_below BW.out hF)).at_ hlt;obtain⟨c0,c1,c2,c3,rfl⟩:=xU hcs;have hc0:=hcell 0 c0 rfl;have hc1:=hcell 1 c1 rfl;have hc2:=hcell 2 c2 rfl;have hc3:=hcell 3 c3 rfl;simp only[Nat.add_zero]at hc0;have hcall:=hp wr l[kk] [c0,c1,c2,c3] (List.getElem_mem hlt) BW.out hr;simp only[Xy]at hcall;clear hr hcell hp hv;cases hq:p l[kk]with
   |true=>
    rw[hq]at hcall;have HC:=Lib.hid hcall;clear hcall;have HQ:=Lib.hid hq;clear hq;go_wp2_with fail;refine HC.out.mono ?_;rintro e w' ⟨rfl,hb'⟩;go_wp2;go_ret;exact⟨by rw[qV hlt HQ.out A1.out];rfl,BW.out.trans (hb'.mono BW.out.size)⟩
   |false=>
    rw[hq]at hcall;have HC:=Lib.hid hcall;clear hcall;have HQ:=Lib.hid hq;clear hq;go_wp2_with fail;refine HC.out.mono ?_;rintro e w' ⟨rfl,hb'⟩;go_wp2;go_roundg (l.length-(kk+1))
    case measure=>omega
    case rel=>exact⟨kk+1,by omega,by omega,by go_num,BW.out.trans (hb'.mono BW.out.size),(show Aside _ from nG hlt HQ.out A1.out)⟩
  ·have hltz:¬(kk:Int)<(l.length:Int):=by omega
   obtain rfl:kk=l.length:=by omega
   go_wp2;go_ret;exact⟨by rw[oK A1.out];rfl,BW.out⟩
theorem xq(v:Value)(l:List Field)(F:aV)(g:Nat)(lb:Array Value)(p:Field→Bool)(w:World)(eg:∀args w,(callFunc g args).run prog w=.ok (.enter g args) w)
  (hF:∀k,F k→k<w.heap.size) (hv:SliceOf aQ 5 80 w F v l)
  (hp:∀W x cs,x∈l→Below w.heap.size w W→aQ W F cs x→Calls prog g (#[Xy cs]++lb) W fun e w'=>e=.returned (.bool (p x))∧Below W.heap.size W w'):
  Calls prog 153 #[v,.func (.func g) #[] lb] w fun e w'=>e=.returned (.int .i64 (fidx p l))∧Below w.heap.size w w':=by
 obtain⟨A,cap,rfl,hlc,hcm,hl2,hl3⟩:=hv.form;go_enter func153,ntmps153;go_wp2;go_loopg [5,8] l.length (fun gg _ s8 wr=>∃kk:Nat,kk≤l.length∧l.length-kk≤gg∧s8=.int .i64 kk∧Aside (Below w.heap.size w wr)∧Aside (∀j,j<kk→∀x,l[j]? =some x→p x=false))
 case atStart=>exact⟨0,Nat.zero_le _,by omega,rfl,Below.refl _ w,(show Aside _ from fun j hj=>absurd hj (Nat.not_lt_zero _))⟩
 case round=>
  obtain⟨kk,hkk,hg,rfl,BW,A1⟩:=hrel
  by_cases hlt:kk<l.length
  ·have hltz:(kk:Int)<(l.length:Int):=by omega
   obtain⟨b,off,cs,rfl,hb,hcs,hr,hcell⟩:=(hv.stays aQ.stays (fun _ h=>h) (Keeps.of_below BW.out hF)).at_ hlt;obtain⟨c0,c1,c2,c3,c4,rfl⟩:=KI hcs;have hc0:=hcell 0 c0 rfl;have hc1:=hcell 1 c1 rfl;have hc2:=hcell 2 c2 rfl;have hc3:=hcell 3 c3 rfl;have hc4:=hcell 4 c4 rfl;simp only[Nat.add_zero]at hc0;have hcall:=hp wr l[kk] [c0,c1,c2,c3,c4] (List.getElem_mem hlt) BW.out hr;simp only[Xy]at hcall;clear hr hcell hp hv;cases hq:p l[kk]with
   |true=>
    rw[hq]at hcall;have HC:=Lib.hid hcall;clear hcall;have HQ:=Lib.hid hq;clear hq;go_wp2_with fail;refine HC.out.mono ?_;rintro e w' ⟨rfl,hb'⟩;go_wp2;go_ret;exact⟨by rw[qV hlt HQ.out A1.out];rfl,BW.out.trans (hb'.mono BW.out.size)⟩
   |false=>
    rw[hq]at hcall;have HC:=Lib.hid hcall;clear hcall;have HQ:=Lib.hid hq;clear hq;go_wp2_with fail;refine HC.out.mono ?_;rintro e w' ⟨rfl,hb'⟩;go_wp2;go_roundg (l.length-(kk+1))
    case measure=>omega
    case rel=>exact⟨kk+1,by omega,by omega,by go_num,BW.out.trans (hb'.mono BW.out.size),(show Aside _ from nG hlt HQ.out A1.out)⟩
  ·have hltz:¬(kk:Int)<(l.length:Int):=by omega
   obtain rfl:kk=l.length:=by omega
   go_wp2;go_ret;exact⟨by rw[oK A1.out];rfl,BW.out⟩
theorem sD(v:Value)(l:List Field)(F:aV)(g:Nat)(lb:Array Value)(p:Field→Bool)(w:World)(eg:∀args w,(callFunc g args).run prog w=.ok (.enter g args) w)
  (hF:∀k,F k→k<w.heap.size) (hv:SliceOf aQ 5 80 w F v l)
  (hp:∀W x cs,x∈l→Below w.heap.size w W→aQ W F cs x→Calls prog g (#[Xy cs]++lb) W fun e w'=>e=.returned (.bool (p x))∧Below W.heap.size W w'):
  Calls prog 90 #[v,.func (.func g) #[] lb] w fun e w'=>e=.returned (.bool (l.any p))∧Below w.heap.size w w':=by
 have hcall:=xq v l F g lb p w eg hF hv hp;have hn:=Lib.hid (qW p l);generalize fidx p l=z at hcall hn;clear hp hv;have HC:=Lib.hid hcall;clear hcall;go_enter func90,ntmps90;go_wp2_with fail;refine HC.out.mono ?_;rintro e w' ⟨rfl,hb'⟩;go_wp2;go_ret;exact⟨by rw[←hn.out];rfl,hb'⟩
theorem Jm(v:Value)(l:List Func)(F:aV)(g:Nat)(lb:Array Value)(p:Func→Bool)(w:World)(eg:∀args w,(callFunc g args).run prog w=.ok (.enter g args) w)
  (hF:∀k,F k→k<w.heap.size) (hv:SliceOf dF 12 192 w F v l)
  (hp:∀W x cs,x∈l→Below w.heap.size w W→dF W F cs x→Calls prog g (#[Xy cs]++lb) W fun e w'=>e=.returned (.bool (p x))∧Below W.heap.size W w'):
  Calls prog 211 #[v,.func (.func g) #[] lb] w fun e w'=>e=.returned (.int .i64 (fidx p l))∧Below w.heap.size w w':=by
 obtain⟨A,cap,rfl,hlc,hcm,hl2,hl3⟩:=hv.form;go_enter func211,ntmps211;go_wp2;go_loopg [5,8] l.length (fun gg _ s8 wr=>∃kk:Nat,kk≤l.length∧l.length-kk≤gg∧s8=.int .i64 kk∧Aside (Below w.heap.size w wr)∧Aside (∀j,j<kk→∀x,l[j]? =some x→p x=false))
 case atStart=>exact⟨0,Nat.zero_le _,by omega,rfl,Below.refl _ w,(show Aside _ from fun j hj=>absurd hj (Nat.not_lt_zero _))⟩
 case round=>
  obtain⟨kk,hkk,hg,rfl,BW,A1⟩:=hrel
  by_cases hlt:kk<l.length
  ·have hltz:(kk:Int)<(l.length:Int):=by omega
   obtain⟨b,off,cs,rfl,hb,hcs,hr,hcell⟩:=(hv.stays dF.stays (fun _ h=>h) (Keeps.of_below BW.out hF)).at_ hlt;obtain⟨c0,c1,c2,c3,c4,c5,c6,c7,c8,c9,c10,c11,rfl⟩:=SK hcs;have hc0:=hcell 0 c0 rfl;have hc1:=hcell 1 c1 rfl;have hc2:=hcell 2 c2 rfl;have hc3:=hcell 3 c3 rfl;have hc4:=hcell 4 c4 rfl;have hc5:=hcell 5 c5 rfl;have hc6:=hcell 6 c6 rfl;have QT:=hcell 7 c7 rfl;have hc8:=hcell 8 c8 rfl;have QU:=hcell 9 c9 rfl;have xZ:=hcell 10 c10 rfl;have yc:=hcell 11 c11 rfl;simp only[Nat.add_zero]at hc0;have hcall:=hp wr l[kk] [c0,c1,c2,c3,c4,c5,c6,c7,c8,c9,c10,c11] (List.getElem_mem hlt) BW.out hr;simp only[Xy]at hcall;clear hr hcell hp hv;cases hq:p l[kk]with
   |true=>
    rw[hq]at hcall;have HC:=Lib.hid hcall;clear hcall;have HQ:=Lib.hid hq;clear hq;go_wp2_with fail;refine HC.out.mono ?_;rintro e w' ⟨rfl,hb'⟩;go_wp2;go_ret;exact⟨by rw[qV hlt HQ.out A1.out];rfl,BW.out.trans (hb'.mono BW.out.size)⟩
   |false=>
    rw[hq]at hcall;have HC:=Lib.hid hcall;clear hcall;have HQ:=Lib.hid hq;clear hq;go_wp2_with fail;refine HC.out.mono ?_;rintro e w' ⟨rfl,hb'⟩;go_wp2;go_roundg (l.length-(kk+1))
    case measure=>omega
    case rel=>exact⟨kk+1,by omega,by omega,by go_num,BW.out.trans (hb'.mono BW.out.size),(show Aside _ from nG hlt HQ.out A1.out)⟩
  ·have hltz:¬(kk:Int)<(l.length:Int):=by omega
   obtain rfl:kk=l.length:=by omega
   go_wp2;go_ret;exact⟨by rw[oK A1.out];rfl,BW.out⟩
theorem CZ(v:Value)(l:List Func)(F:aV)(g:Nat)(lb:Array Value)(p:Func→Bool)(w:World)(eg:∀args w,(callFunc g args).run prog w=.ok (.enter g args) w)
  (hF:∀k,F k→k<w.heap.size) (hv:SliceOf dF 12 192 w F v l)
  (hp:∀W x cs,x∈l→Below w.heap.size w W→dF W F cs x→Calls prog g (#[Xy cs]++lb) W fun e w'=>e=.returned (.bool (p x))∧Below W.heap.size W w'):
  Calls prog 149 #[v,.func (.func g) #[] lb] w fun e w'=>e=.returned (.bool (l.any p))∧Below w.heap.size w w':=by
 have hcall:=Jm v l F g lb p w eg hF hv hp;have hn:=Lib.hid (qW p l);generalize fidx p l=z at hcall hn;clear hp hv;have HC:=Lib.hid hcall;clear hcall;go_enter func149,ntmps149;go_wp2_with fail;refine HC.out.mono ?_;rintro e w' ⟨rfl,hb'⟩;go_wp2;go_ret;exact⟨by rw[←hn.out];rfl,hb'⟩
theorem GX(v:Value)(l:List Known)(F:aV)(g:Nat)(lb:Array Value)(p:Known→Bool)(w:World)(eg:∀args w,(callFunc g args).run prog w=.ok (.enter g args) w)
  (hF:∀k,F k→k<w.heap.size) (hv:SliceOf aW 2 32 w F v l)
  (hp:∀W x cs,x∈l→Below w.heap.size w W→aW W F cs x→Calls prog g (#[Xy cs]++lb) W fun e w'=>e=.returned (.bool (p x))∧Below W.heap.size W w'):
  Calls prog 159 #[v,.func (.func g) #[] lb] w fun e w'=>e=.returned (.int .i64 (fidx p l))∧Below w.heap.size w w':=by
 obtain⟨A,cap,rfl,hlc,hcm,hl2,hl3⟩:=hv.form;go_enter func159,ntmps159;go_wp2;go_loopg [5,8] l.length (fun gg _ s8 wr=>∃kk:Nat,kk≤l.length∧l.length-kk≤gg∧s8=.int .i64 kk∧Aside (Below w.heap.size w wr)∧Aside (∀j,j<kk→∀x,l[j]? =some x→p x=false))
 case atStart=>exact⟨0,Nat.zero_le _,by omega,rfl,Below.refl _ w,(show Aside _ from fun j hj=>absurd hj (Nat.not_lt_zero _))⟩
 case round=>
  obtain⟨kk,hkk,hg,rfl,BW,A1⟩:=hrel
  by_cases hlt:kk<l.length
  ·have hltz:(kk:Int)<(l.length:Int):=by omega
   obtain⟨b,off,cs,rfl,hb,hcs,hr,hcell⟩:=(hv.stays aW.stays (fun _ h=>h) (Keeps.of_below BW.out hF)).at_ hlt;obtain⟨c0,c1,rfl⟩:=xE hcs;have hc0:=hcell 0 c0 rfl;have hc1:=hcell 1 c1 rfl;simp only[Nat.add_zero]at hc0;have hcall:=hp wr l[kk] [c0,c1] (List.getElem_mem hlt) BW.out hr;simp only[Xy]at hcall;clear hr hcell hp hv;cases hq:p l[kk]with
   |true=>
    rw[hq]at hcall;have HC:=Lib.hid hcall;clear hcall;have HQ:=Lib.hid hq;clear hq;go_wp2_with fail;refine HC.out.mono ?_;rintro e w' ⟨rfl,hb'⟩;go_wp2;go_ret;exact⟨by rw[qV hlt HQ.out A1.out];rfl,BW.out.trans (hb'.mono BW.out.size)⟩
   |false=>
    rw[hq]at hcall;have HC:=Lib.hid hcall;clear hcall;have HQ:=Lib.hid hq;clear hq;go_wp2_with fail;refine HC.out.mono ?_;rintro e w' ⟨rfl,hb'⟩;go_wp2;go_roundg (l.length-(kk+1))
    case measure=>omega
    case rel=>exact⟨kk+1,by omega,by omega,by go_num,BW.out.trans (hb'.mono BW.out.size),(show Aside _ from nG hlt HQ.out A1.out)⟩
  ·have hltz:¬(kk:Int)<(l.length:Int):=by omega
   obtain rfl:kk=l.length:=by omega
   go_wp2;go_ret;exact⟨by rw[oK A1.out];rfl,BW.out⟩
end Go.Proofs.YtjaladhdnbhliaaGreatDoor
