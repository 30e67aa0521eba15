/- Parts. -/
import Derived.Test.YtjaladhdnbhliaaGreatDoorQFaceRef
import Derived.StillTailTactics
set_option maxHeartbeats 1000000
set_option maxRecDepth 100000
namespace Go.Proofs.YtjaladhdnbhliaaGreatDoor
open Go.Proofs.Tryz
open Go.RowKit Go.Shelf
def LC:ByteArray:=⟨#[117,115,101]⟩
def Dv:ByteArray:=⟨#[116,121,112,101]⟩
def Du:ByteArray:=⟨#[102,117,110,99]⟩
def pI:ByteArray:=⟨#[105,110,116]⟩
def nP:ByteArray:=⟨#[116,101,120,116]⟩
def keywords:List ByteArray:= [LC,Dv,Du,pI,nP]
def aX(s:ByteArray):Bool:=oH s&& !(o9 keywords s)
theorem LD(s:ByteArray)(l:List UInt8):decide ((⟨l.toArray⟩:ByteArray)=s)=(s.toList==l):=by
 rw[ByteArray.toList_eq,Bool.eq_iff_iff,beq_iff_eq,decide_eq_true_eq];constructor
 ·intro h;rw[←h]
 ·intro h;exact Go.WideShapes.bytes_inj h.symm
theorem aiq(s:ByteArray):o9 keywords s=((s.toList== [117,115,101])||((s.toList== [116,121,112,101])||((s.toList== [102,117,110,99])||((s.toList== [105,110,116])||((s.toList== [116,101,120,116])||false))))):=by
 rw[←LD s [117,115,101],←LD s [116,121,112,101],←LD s [102,117,110,99],←LD s [105,110,116],←LD s [116,101,120,116]]
 rfl
theorem ad2:∀s∈keywords,s.size≤140737488355328:=by
 intro s hs;simp only[keywords,List.mem_cons,List.not_mem_nil,or_false]at hs;rcases hs with rfl|rfl|rfl|rfl|rfl<;>simp[LC,Dv,Du,pI,nP,ByteArray.size]
theorem Zh(W:World)(ss:List ByteArray)(e:TypeId)(m:Nat×Nat)(cap:Nat)(hs:∀s∈ss,s.size≤140737488355328)(hl:ss.length*16≤140737488355328)(hc:ss.length≤cap)(hm:cap≤maxLen):
  SliceOf aY 1 16 (W.alloc (.cells (ss.map Value.string).toArray e m)) (fun k=>k=W.heap.size) (.slice (some ⟨W.heap.size,0,none⟩) ss.length cap) ss:=by
 refine⟨_,cap,rfl,hc,hm,hl,by omega,fun _=>⟨W.heap.size,0,rfl,rfl,fun i x hi=>⟨[.string x],rfl,⟨rfl,hs _ (List.mem_of_getElem? hi)⟩,fun j u hj=>?_⟩⟩⟩;have hj0:j=0:=by
  have:=(List.getElem?_eq_some_iff.1 hj).1;simp at this;exact this
 subst hj0;simp only[List.getElem?_cons_zero,Option.some.injEq]at hj;subst hj;have hh:(W.alloc (.cells (ss.map Value.string).toArray e m)).heap[W.heap.size]? =some (.cells (ss.map Value.string).toArray e m):=heap_alloc_new W _;rw[cell_of_row _ _ _ _ _ _ hh];simp[hi]
theorem iV(s:ByteArray)(w:World)(hs:s.size≤140737488355328):Calls prog 61 #[.string s] w fun e w'=>e=.returned (.bool (aX s))∧Below w.heap.size w w':=by
 have hword:=Xp s w hs;unfold aX;cases hq:oH s with
 |false=>
  rw[hq]at hword;have HW:=Lib.hid hword;clear hword hq;go_enter func61,ntmps61;go_wp2_with fail;refine HW.out.mono ?_;rintro e w' ⟨rfl,hb⟩;go_wp2;go_ret;exact⟨rfl,hb⟩
 |true=>
  rw[hq]at hword;have HW:=Lib.hid hword;clear hword hq;go_enter func61,ntmps61;go_wp2_with fail;refine HW.out.mono ?_;rintro e w' ⟨rfl,hb⟩;go_wp2_with fail;refine(qL _ keywords _ s _ (Zh w' keywords 9 (0,0) 5 ad2 (by decide) (by decide) (by decide))).mono ?_;rintro e w2 ⟨rfl,rfl⟩;go_wp2;go_ret;exact⟨rfl,hb.alloc hb.size _⟩
theorem fU(s:ByteArray)(w:World)(hs:s.size≤140737488355328):Calls prog 98 #[.string s] w fun e w'=>e=.returned (.bool (aX s))∧w=w':=by
 go_enter func98,ntmps98;go_wp2_with(go_at_call 164;refine(I9 _ _ hs).mono ?_;rintro e w' ⟨rfl,rfl⟩);all_goals go_ret
 all_goals (go_tidy;refine⟨dw ?_,rfl⟩;unfold aX;rw[aiq];simp_all;try(simp only[Bool.and_assoc]))
def elemOf(s:ByteArray):Option ByteArray:=
 if h:3≤s.size then if s[0].toNat=91∧s[s.size-1].toNat=93 then some (s.extract 1 (s.size-1))else none else none
theorem zQ(s:ByteArray)(w:World)(hs:s.size≤140737488355328):
  Calls prog 113 #[.string s] w fun e w'=>e=.returned (.tuple #[.string ((elemOf s).getD ⟨#[]⟩),.bool (elemOf s).isSome])∧w=w':=by
 go_enter func113,ntmps113;go_wp2;all_goals go_ret2
 all_goals (go_tidy;refine⟨?_,rfl⟩)
 all_goals (simp only[bne_iff_ne,bne_eq_false_iff_eq,ne_eq]at *;unfold elemOf;(repeat' split)<;>simp_all<;>omega)
theorem xQ(s:ByteArray)(w:World)(hs:s.size≤140737488355328):
  Calls prog 171 #[.string s] w fun e w'=>e=.returned (.tuple #[.string ((elemOf s).getD ⟨#[]⟩),.bool (elemOf s).isSome])∧w=w':=by
 go_enter func171,ntmps171;go_wp2;all_goals go_ret2
 all_goals (go_tidy;refine⟨?_,rfl⟩)
 all_goals (simp only[beq_iff_eq,beq_eq_false_iff_ne,ne_eq]at *;unfold elemOf;(repeat' split)<;>simp_all<;>omega)
theorem qy{s t:ByteArray}(h:elemOf s=some t)(w:World)(hs:s.size≤140737488355328):
  Calls prog 113 #[.string s] w fun e w'=>e=.returned (.tuple #[.string t,.bool true])∧w=w':=by
 have:=zQ s w hs;rw[h]at this;exact this
theorem wV{s:ByteArray}(h:elemOf s=none)(w:World)(hs:s.size≤140737488355328):
  Calls prog 113 #[.string s] w fun e w'=>e=.returned (.tuple #[.string ⟨#[]⟩,.bool false])∧w=w':=by
 have:=zQ s w hs;rw[h]at this;exact this
theorem lX{s t:ByteArray}(h:elemOf s=some t)(w:World)(hs:s.size≤140737488355328):
  Calls prog 171 #[.string s] w fun e w'=>e=.returned (.tuple #[.string t,.bool true])∧w=w':=by
 have:=xQ s w hs;rw[h]at this;exact this
theorem qU{s:ByteArray}(h:elemOf s=none)(w:World)(hs:s.size≤140737488355328):
  Calls prog 171 #[.string s] w fun e w'=>e=.returned (.tuple #[.string ⟨#[]⟩,.bool false])∧w=w':=by
 have:=xQ s w hs;rw[h]at this;exact this
theorem dK{s t:ByteArray}(h:elemOf s=some t):t.size+2=s.size:=by
 unfold elemOf at h;split at h
 ·split at h
  ·injection h with h
   subst h;rw[ByteArray.size_extract];omega
  ·cases h
 ·cases h
def yL:Nat→ByteArray→ByteArray
 |0,s=>s
 |n+1,s=>match elemOf s with
  |some t=>yL n t
  |none=>s
def strip(s:ByteArray):ByteArray:=yL s.size s
theorem IZ:∀(n m:Nat) (s:ByteArray),s.size≤n→s.size≤m→yL n s=yL m s
 |0,0,_,_,_=>rfl
 |0,m+1,s,h,_=>by
  have:elemOf s=none:=by
   cases he:elemOf s with
   |none=>rfl
   |some t=>have:=dK he;omega
  simp[yL,this]
 |n+1,0,s,_,h=>by
  have:elemOf s=none:=by
   cases he:elemOf s with
   |none=>rfl
   |some t=>have:=dK he;omega
  simp[yL,this]
 |n+1,m+1,s,h1,h2=>by
  unfold yL;cases he:elemOf s with
  |none=>rfl
  |some t=>
   have:=dK he;exact IZ n m t (by omega) (by omega)
theorem uV{s t:ByteArray}(h:elemOf s=some t):strip s=strip t:=by
 have hz:=dK h;unfold strip;obtain⟨k,hk⟩:∃k,s.size=k+1:=⟨s.size-1,by omega⟩;rw[hk]
 show(match elemOf s with|some t=>yL k t|none=>s)=_
 rw[h];exact IZ _ _ _ (by omega) (by omega)
theorem uU{s:ByteArray}(h:elemOf s=none):strip s=s:=by
 unfold strip;cases hk:s.size with
 |zero=>rfl
 |succ k=>simp[yL,h]
def Ib(s:ByteArray):Bool:=(s.toList== [105,110,116])||((s.toList== [116,101,120,116])||(s.toList== [42]))
def aP(s:ByteArray):Int:=if 600<s.size then 1 else if Ib (strip s)then 0 else 4
theorem dU(s:ByteArray)(w:World)(hs:s.size≤140737488355328):
  Calls prog 62 #[.string s] w fun e w'=>e=.returned (.int .i64 (aP s))∧w=w':=by
 by_cases h6:600<s.size
 ·have h6z:(600:Int)<(s.size:Int):=by omega
  have hf:aP s=1:=by simp[aP,h6]
  rw[hf];go_enter func62,ntmps62;go_wp2_with fail;go_ret;exact⟨rfl,rfl⟩
 ·have h6z:¬(600:Int)<(s.size:Int):=by omega
  go_enter func62,ntmps62;go_wp2_with fail;go_loopg [0] s.size (fun gg s0 wr=>∃t:ByteArray,t.size≤gg∧t.size≤s.size∧s0=.string t∧wr=w∧Aside (strip s=strip t))
  case atStart=>exact⟨s,aJ _,aJ _,rfl,rfl,(show Aside _ from rfl)⟩
  case round=>
   obtain⟨t,hg,hle,rfl,rfl,A1⟩:=hrel;cases he:elemOf t with
   |some u=>
    have hz:=dK he;have HZ:u.size<t.size:=by omega
    have HE:=Lib.hid he;clear he hz;go_wp2_with(go_at_call 113;refine(qy HE.out _ (by omega)).mono ?_;rintro e w' ⟨rfl,rfl⟩);go_roundg (u.size)
    case measure=>omega
    case rel=>exact⟨u,aJ _,by omega,rfl,rfl,(show Aside _ from A1.out.trans (uV HE.out))⟩
   |none=>
    have HE:=Lib.hid he;clear he;go_wp2_with(go_at_call 113;refine(wV HE.out _ (by omega)).mono ?_;rintro e w' ⟨rfl,rfl⟩);all_goals go_ret
    all_goals (go_tidy;refine⟨dh ?_,rfl⟩;unfold aP;rw[if_neg h6,A1.out,uU HE.out];simp_all [Ib])
theorem dZ(s:ByteArray)(w:World)(hs:s.size≤140737488355328):
  Calls prog 165 #[.string s] w fun e w'=>e=.returned (.int .i64 (aP s))∧w=w':=by
 by_cases h6:600<s.size
 ·have h6z:(600:Int)<(s.size:Int):=by omega
  have hf:aP s=1:=by simp[aP,h6]
  rw[hf];go_enter func165,ntmps165;go_wp2_with fail;go_ret;exact⟨rfl,rfl⟩
 ·have h6z:¬(600:Int)<(s.size:Int):=by omega
  go_enter func165,ntmps165;go_wp2_with fail;go_loopg [0] s.size (fun gg s0 wr=>∃t:ByteArray,t.size≤gg∧t.size≤s.size∧s0=.string t∧wr=w∧Aside (strip s=strip t))
  case atStart=>exact⟨s,aJ _,aJ _,rfl,rfl,(show Aside _ from rfl)⟩
  case round=>
   obtain⟨t,hg,hle,rfl,rfl,A1⟩:=hrel;cases he:elemOf t with
   |some u=>
    have hz:=dK he;have HZ:u.size<t.size:=by omega
    have HE:=Lib.hid he;clear he hz;go_wp2_with(go_at_call 171;refine(lX HE.out _ (by omega)).mono ?_;rintro e w' ⟨rfl,rfl⟩);go_roundg (u.size)
    case measure=>omega
    case rel=>exact⟨u,aJ _,by omega,rfl,rfl,(show Aside _ from A1.out.trans (uV HE.out))⟩
   |none=>
    have HE:=Lib.hid he;clear he;go_wp2_with(go_at_call 171;refine(qU HE.out _ (by omega)).mono ?_;rintro e w' ⟨rfl,rfl⟩);all_goals go_ret
    all_goals (go_tidy;refine⟨dh ?_,rfl⟩;unfold aP;rw[if_neg h6,A1.out,uU HE.out];simp_all [Ib])
def listOf(s:ByteArray):ByteArray:=⟨#[91]⟩++s++⟨#[93]⟩
def kK(s:ByteArray):Int:=if aP s=0 then(if 598<s.size then 1 else 0)else aP s
def jH(s:ByteArray):ByteArray:=if aP s=0 then(if 598<s.size then⟨#[]⟩else listOf s)else⟨#[]⟩
theorem LK(s:ByteArray)(w:World)(hs:s.size≤140737488355328):
  Calls prog 162 #[.string s] w fun e w'=>e=.returned (.tuple #[.string (jH s),.int .i64 (kK s)])∧w=w':=by
 unfold jH kK;have hk:=dU s w hs;generalize aP s=z at hk⊢;have HK:=Lib.hid hk;clear hk
 by_cases h0:z=0
 ·subst h0
  by_cases h6:598<s.size
  ·have h6z:600<(s.size:Int)+2:=by omega
   go_enter func162,ntmps162;go_wp2_with fail;refine HK.out.mono ?_;rintro e w' ⟨rfl,rfl⟩;go_wp2_with fail
   go_ret2
   exact⟨by simp,rfl⟩
  ·have h6z:¬600<(s.size:Int)+2:=by omega
   go_enter func162,ntmps162;go_wp2_with fail;refine HK.out.mono ?_;rintro e w' ⟨rfl,rfl⟩;go_wp2_with fail
   go_ret2
   exact⟨by simp[listOf],rfl⟩
 ·have h0z:(z==0)=false:=by simp[h0]
  have h0n:(z !=0)=true:=by simp[h0]
  go_enter func162,ntmps162;go_wp2_with fail;refine HK.out.mono ?_;rintro e w' ⟨rfl,rfl⟩;go_wp2_with fail
  go_ret2
  exact⟨by simp,rfl⟩
theorem E5(s:ByteArray)(w:World)(hs:s.size≤140737488355328):
  Calls prog 170 #[.string s] w fun e w'=>e=.returned (.tuple #[.string (jH s),.int .i64 (kK s)])∧w=w':=by
 unfold jH kK;have hk:=dZ s w hs;generalize aP s=z at hk⊢;have HK:=Lib.hid hk;clear hk
 by_cases h0:z=0
 ·subst h0
  by_cases h6:598<s.size
  ·have h6z:598<(s.size:Int):=by omega
   go_enter func170,ntmps170;go_wp2_with fail;refine HK.out.mono ?_;rintro e w' ⟨rfl,rfl⟩;go_wp2_with fail
   go_ret2
   exact⟨by simp,rfl⟩
  ·have h6z:¬598<(s.size:Int):=by omega
   go_enter func170,ntmps170;go_wp2_with fail;refine HK.out.mono ?_;rintro e w' ⟨rfl,rfl⟩;go_wp2_with fail
   go_ret2
   exact⟨by simp[listOf],rfl⟩
 ·have h0z:(z==0)=false:=by simp[h0]
  have h0n:(z !=0)=true:=by simp[h0]
  go_enter func170,ntmps170;go_wp2_with fail;refine HK.out.mono ?_;rintro e w' ⟨rfl,rfl⟩;go_wp2_with fail
  go_ret2
  exact⟨by simp,rfl⟩
theorem Grew.Vr(b:Nat)(w:World)(r:Option Nat)(h:∀k,r=some k→b≤k):Grew b w w r:=⟨rfl,rfl,rfl,aJ _,fun _ _ _=>rfl,h⟩
theorem Grew.Pg{b:Nat}{w w':World}{r:Option Nat}(h:Grew b w.drew w' r):Grew b w w' r:=⟨h.os,h.tape,h.output,h.size,h.block,h.low⟩
theorem Grew.cell_{b:Nat}(w:World)(i:Nat)(u:Value):Grew b w (w.setCell ⟨b,i,none⟩ u) (some b):=
 ⟨rfl,rfl,rfl,by simp[World.setCell],fun k _ hk=>Below.heap_setCell _ _ _ _ (fun e=>hk (by rw[show k=b from e])),fun k hk=>by injection hk with hk;omega⟩
theorem Grew.wE{b:Nat}{w a c:World}{r:Option Nat}(h:Grew b w a r)(k:Grew b a c r):Grew b w c r:=
 ⟨k.os.trans h.os,k.tape.trans h.tape,k.output.trans h.output,Nat.le_trans h.size k.size,fun j hj hr=>(k.block j (Nat.lt_of_lt_of_le hj h.size) hr).trans (h.block j hj hr),h.low⟩
theorem Grew.of_below{b:Nat}{w w':World}{r:Option Nat}(h:Below w.heap.size w w')(hr:∀k,r=some k→b≤k):Grew b w w' r:=⟨h.os,h.tape,h.output,h.size,fun k hk _=>h.block k hk,hr⟩
theorem Grew.jm{b n:Nat}{w w':World}{t:TypeId}{cs:Array Value}(h:Grew b w w' (some b))(hB:Box w n t cs)(hn:n≠b):Box w' n t cs:=Box.of_heap hB (h.block n hB.lt (fun e=>hn (by injection e)))
theorem Grew.aak{b:Nat}{w w':World}{r:Option Nat}(h:Grew b w w' r){p:Addr}(hp:w.heap.size≤p.block)(u:Value):Grew b w (w'.setCell p u) r:=
 ⟨h.os,h.tape,h.output,by rw[size_set];exact h.size,fun k hk hr=>(Below.heap_setCell _ _ _ _ (by omega)).trans (h.block k hk hr),h.low⟩
theorem Grew.then_{b:Nat}{w a c:World}{r row:Option Nat}(h:Grew b w a r)(k:Grew w.heap.size a c row):Grew b w c r:=
 ⟨k.os.trans h.os,k.tape.trans h.tape,k.output.trans h.output,Nat.le_trans h.size k.size,fun j hj hr=>(k.block j (Nat.lt_of_lt_of_le hj h.size) (fun e=>by have:=k.low j e.symm;omega)).trans (h.block j hj hr),h.low⟩
theorem Grew.keeps{b n:Nat}{w w':World}(h:Grew b w w' (some b))(hb:b<n){m:Nat}(hs:m≤w.heap.size):Keeps (fresh n m) w w':=
 fun p hp=>World.cell?_of_block (h.block p.block (by have:=hp.2;omega) (fun e=>by injection e with e;have:=hp.1;omega))
theorem tC{b:Nat}:∀k,some b=some k→b≤k:=fun k hk=>by injection hk with hk;omega
theorem aZ.read{α:Type}{R:CR α}{sz base b:Nat}{e:TypeId}{F:aV}{w w':World}{v:Value}{l:List α}(hR:eH R)(h:aZ R sz e base w F v l)(hg:Grew b w w' (some b))(hb:b<base)(hF:∀k,F k→base≤k):aZ R sz e base w' F v l:=
 h.kept hR hg.size fun k hk hk2=>hg.block k hk (fun e=>by
  injection e with e
  rcases hk2 with h2|h2
  ·have:=hF k h2;omega
  ·have:=(h.row h2).1;omega)
theorem aU.form{w:World}{F:aV}{cs:List Value}{x:Import}(h:aU w F cs x):∃T1 e1 T2 e2,cs= [.string x.name,.bool x.there,.slice T1 x.face.types.length e1,.slice T2 x.face.funcs.length e2]:=by
 obtain⟨tv,fv,rfl,_,h1⟩:=h;obtain⟨T1,e1,T2,e2,h2⟩:=h1.form;injection h2 with h2 h3
 injection h3 with h3 _
 subst h2;subst h3;exact⟨_,_,_,_,rfl⟩
theorem aU.face{w:World}{F:aV}{x:Import}{a b:Value}{tv fv:Value}(h:aU w F [a,b,tv,fv] x):bD w F [tv,fv] x.face:=by
 obtain⟨tv',fv',h0,_,h1⟩:=h;injection h0 with _ h0
 injection h0 with _ h0
 injection h0 with h2 h0
 injection h0 with h3 _
 subst h2;subst h3;exact h1
theorem aU.ael{w:World}{F:aV}{cs:List Value}{x:Import}(h:aU w F cs x):okS x.name:=by
 obtain⟨_,_,_,h1,_⟩:=h;exact h1
end Go.Proofs.YtjaladhdnbhliaaGreatDoor
