/- Parts. -/
import Derived.WalkSpells
import Derived.WalkLawsBesides
import Derived.Deep.Slices
import Derived.Deep.LoopGhost
import Derived.Lib.Hide
import Derived.Shelf.Abstract
import Derived.Handy
import Derived.Deep.AppendLies
import Derived.Sort.Walk0
import Derived.Lib.Bytealg
namespace Go.Proofs.YtjaladhdnbhliaaGreatDoor
theorem ah{p:Prop}(h:p):Go.RowKit.Hid p:=Lib.hid h
theorem aj{p0 p1:Prop}(h0:p0)(h1:p1):Go.RowKit.Hid p0∧Go.RowKit.Hid p1:=⟨Lib.hid h0,Lib.hid h1⟩
theorem ak{p0 p1 p2:Prop}(h0:p0)(h1:p1)(h2:p2):Go.RowKit.Hid p0∧Go.RowKit.Hid p1∧Go.RowKit.Hid p2:=⟨Lib.hid h0,Lib.hid h1,Lib.hid h2⟩
theorem au{p0 p1 p2 p3:Prop}(h0:p0)(h1:p1)(h2:p2)(h3:p3):Go.RowKit.Hid p0∧Go.RowKit.Hid p1∧Go.RowKit.Hid p2∧Go.RowKit.Hid p3:=⟨Lib.hid h0,Lib.hid h1,Lib.hid h2,Lib.hid h3⟩
theorem ay{p0 p1 p2 p3 p4:Prop}(h0:p0)(h1:p1)(h2:p2)(h3:p3)(h4:p4):Go.RowKit.Hid p0∧Go.RowKit.Hid p1∧Go.RowKit.Hid p2∧Go.RowKit.Hid p3∧Go.RowKit.Hid p4:=⟨Lib.hid h0,Lib.hid h1,Lib.hid h2,Lib.hid h3,Lib.hid h4⟩
theorem aA{p0 p1 p2 p3 p4 p5:Prop}(h0:p0)(h1:p1)(h2:p2)(h3:p3)(h4:p4)(h5:p5):Go.RowKit.Hid p0∧Go.RowKit.Hid p1∧Go.RowKit.Hid p2∧Go.RowKit.Hid p3∧Go.RowKit.Hid p4∧Go.RowKit.Hid p5:=⟨Lib.hid h0,Lib.hid h1,Lib.hid h2,Lib.hid h3,Lib.hid h4,Lib.hid h5⟩
theorem aB{p0 p1 p2 p3 p4 p5 p6:Prop}(h0:p0)(h1:p1)(h2:p2)(h3:p3)(h4:p4)(h5:p5)(h6:p6):Go.RowKit.Hid p0∧Go.RowKit.Hid p1∧Go.RowKit.Hid p2∧Go.RowKit.Hid p3∧Go.RowKit.Hid p4∧Go.RowKit.Hid p5∧Go.RowKit.Hid p6:=⟨Lib.hid h0,Lib.hid h1,Lib.hid h2,Lib.hid h3,Lib.hid h4,Lib.hid h5,Lib.hid h6⟩
theorem aC{p0 p1 p2 p3 p4 p5 p6 p7:Prop}(h0:p0)(h1:p1)(h2:p2)(h3:p3)(h4:p4)(h5:p5)(h6:p6)(h7:p7):Go.RowKit.Hid p0∧Go.RowKit.Hid p1∧Go.RowKit.Hid p2∧Go.RowKit.Hid p3∧Go.RowKit.Hid p4∧Go.RowKit.Hid p5∧Go.RowKit.Hid p6∧Go.RowKit.Hid p7:=⟨Lib.hid h0,Lib.hid h1,Lib.hid h2,Lib.hid h3,Lib.hid h4,Lib.hid h5,Lib.hid h6,Lib.hid h7⟩
theorem aF{p0 p1 p2 p3 p4 p5 p6 p7 p8:Prop}(h0:p0)(h1:p1)(h2:p2)(h3:p3)(h4:p4)(h5:p5)(h6:p6)(h7:p7)(h8:p8):Go.RowKit.Hid p0∧Go.RowKit.Hid p1∧Go.RowKit.Hid p2∧Go.RowKit.Hid p3∧Go.RowKit.Hid p4∧Go.RowKit.Hid p5∧Go.RowKit.Hid p6∧Go.RowKit.Hid p7∧Go.RowKit.Hid p8:=⟨Lib.hid h0,Lib.hid h1,Lib.hid h2,Lib.hid h3,Lib.hid h4,Lib.hid h5,Lib.hid h6,Lib.hid h7,Lib.hid h8⟩
theorem aG{p0 p1 p2 p3 p4 p5 p6 p7 p8 p9:Prop}(h0:p0)(h1:p1)(h2:p2)(h3:p3)(h4:p4)(h5:p5)(h6:p6)(h7:p7)(h8:p8)(h9:p9):Go.RowKit.Hid p0∧Go.RowKit.Hid p1∧Go.RowKit.Hid p2∧Go.RowKit.Hid p3∧Go.RowKit.Hid p4∧Go.RowKit.Hid p5∧Go.RowKit.Hid p6∧Go.RowKit.Hid p7∧Go.RowKit.Hid p8∧Go.RowKit.Hid p9:=⟨Lib.hid h0,Lib.hid h1,Lib.hid h2,Lib.hid h3,Lib.hid h4,Lib.hid h5,Lib.hid h6,Lib.hid h7,Lib.hid h8,Lib.hid h9⟩
theorem aH{p0 p1 p2 p3 p4 p5 p6 p7 p8 p9 p10:Prop}(h0:p0)(h1:p1)(h2:p2)(h3:p3)(h4:p4)(h5:p5)(h6:p6)(h7:p7)(h8:p8)(h9:p9)(h10:p10):Go.RowKit.Hid p0∧Go.RowKit.Hid p1∧Go.RowKit.Hid p2∧Go.RowKit.Hid p3∧Go.RowKit.Hid p4∧Go.RowKit.Hid p5∧Go.RowKit.Hid p6∧Go.RowKit.Hid p7∧Go.RowKit.Hid p8∧Go.RowKit.Hid p9∧Go.RowKit.Hid p10:=⟨Lib.hid h0,Lib.hid h1,Lib.hid h2,Lib.hid h3,Lib.hid h4,Lib.hid h5,Lib.hid h6,Lib.hid h7,Lib.hid h8,Lib.hid h9,Lib.hid h10⟩
theorem aI{p0 p1 p2 p3 p4 p5 p6 p7 p8 p9 p10 p11:Prop}(h0:p0)(h1:p1)(h2:p2)(h3:p3)(h4:p4)(h5:p5)(h6:p6)(h7:p7)(h8:p8)(h9:p9)(h10:p10)(h11:p11):Go.RowKit.Hid p0∧Go.RowKit.Hid p1∧Go.RowKit.Hid p2∧Go.RowKit.Hid p3∧Go.RowKit.Hid p4∧Go.RowKit.Hid p5∧Go.RowKit.Hid p6∧Go.RowKit.Hid p7∧Go.RowKit.Hid p8∧Go.RowKit.Hid p9∧Go.RowKit.Hid p10∧Go.RowKit.Hid p11:=⟨Lib.hid h0,Lib.hid h1,Lib.hid h2,Lib.hid h3,Lib.hid h4,Lib.hid h5,Lib.hid h6,Lib.hid h7,Lib.hid h8,Lib.hid h9,Lib.hid h10,Lib.hid h11⟩
theorem aJ(n:Nat):n≤n:=Nat.le_refl n
theorem aK{α:Type}{l:List α}{i:Nat}(h:i<l.length):l[i]? =some l[i]:=List.getElem?_eq_getElem h
open Go.RowKit
theorem dw{a b:Bool}(h:a=b):Ending.returned (.bool a)=.returned (.bool b):=by rw[h]
theorem dh{k:IntKind}{a b:Int}(h:a=b):Ending.returned (.int k a)=.returned (.int k b):=by rw[h]
abbrev aV:=Nat→Prop
def old(n:Nat):aV:=fun k=>k<n
def fresh(n m:Nat):aV:=fun k=>n≤k∧k<m
def Keeps(F:aV)(w w':World):Prop:=∀p:Addr,F p.block→w'.cell? p=w.cell? p
theorem Keeps.refl(F:aV)(w:World):Keeps F w w:=fun _ _=>rfl
theorem Keeps.trans{F:aV}{a b c:World}(h:Keeps F a b)(k:Keeps F b c):Keeps F a c:=fun p hp=>(k p hp).trans (h p hp)
theorem Keeps.mono{F F':aV}{a b:World}(h:Keeps F a b)(hF:∀k,F' k→F k):Keeps F' a b:=fun p hp=>h p (hF _ hp)
theorem Keeps.of_below{F:aV}{B:Nat}{a b:World}(h:Below B a b)(hF:∀k,F k→k<B):Keeps F a b:=fun _ hp=>h.cell (hF _ hp)
theorem Keeps.drew{F:aV}{a b:World}(h:Keeps F a b):Keeps F a b.drew:=h
theorem Keeps.drewN{F:aV}{a b:World}(h:Keeps F a b)(n:Nat):Keeps F a (b.drewN n):=h
theorem Keeps.alloc{F:aV}{a b:World}(h:Keeps F a b)(hF:∀k,F k→k<b.heap.size)(o:Obj):Keeps F a (b.alloc o):=
 h.trans fun p hp=>World.cell?_alloc_lt b o p (hF _ hp)
theorem Keeps.setCell{F:aV}{a b:World}(h:Keeps F a b){q:Addr}(hq:¬F q.block)(u:Value):Keeps F a (b.setCell q u):=
 h.trans fun p hp=>World.cell?_setCell_other b q p u (fun e=>by subst e;exact hq hp)
theorem Keeps.grown{F:aV}{a b c:World}{row:Option Nat}(h:Keeps F a b)(hg:b.grownBy c row)(hF:∀k,F k→k<b.heap.size∧some k≠row):Keeps F a c:=
 h.trans fun p hp=>World.cell?_of_block (hg.block p.block (hF _ hp).1 (hF _ hp).2)
abbrev CR(α:Type):=World→aV→List Value→α→Prop
def eH{α:Type}(R:CR α):Prop:=∀(w w':World) (F F':aV) (cs:List Value) (x:α),R w F cs x→(∀k,F k→F' k)→Keeps F w w'→R w' F' cs x
def SliceOf{α:Type}(R:CR α)(sz jZ:Nat)(w:World)(F:aV)(v:Value)(l:List α):Prop:=
 ∃A cap,v=.slice A l.length cap∧l.length≤cap∧cap≤maxLen∧l.length*jZ≤140737488355328∧l.length≤140737488355328∧
  (0<l.length→∃b off,A=some ⟨b,off,none⟩∧F b∧∀i x,l[i]? =some x→∃cs:List Value,cs.length=sz∧R w F cs x∧∀j u,cs[j]? =some u→w.cell? ⟨b,off+i*sz+j,none⟩=some u)
section
variable {α:Type} {R:CR α} {sz jZ:Nat} {F F':aV} {w w':World} {v:Value} {l:List α}
theorem SliceOf.stays(hR:eH R)(h:SliceOf R sz jZ w F v l)(hF:∀k,F k→F' k)(hk:Keeps F w w'):SliceOf R sz jZ w' F' v l:=by
 obtain⟨A,cap,rfl,h1,h2,h3,h3',h4⟩:=h;refine⟨A,cap,rfl,h1,h2,h3,h3',fun hl=>?_⟩;obtain⟨b,off,hA,hb,hx⟩:=h4 hl;refine⟨b,off,hA,hF _ hb,fun i x hi=>?_⟩;obtain⟨cs,hc,hr,hcell⟩:=hx i x hi;exact⟨cs,hc,hR _ _ _ _ _ _ hr hF hk,fun j u hj=>(hk _ hb).trans (hcell j u hj)⟩
theorem SliceOf.nil_:SliceOf R sz jZ w F (.slice none 0 0) ([]:List α):=⟨none,0,rfl,Nat.le_refl _,Nat.zero_le _,by simp,by simp,fun h=>absurd h (by simp)⟩
theorem SliceOf.form(h:SliceOf R sz jZ w F v l):∃A cap,v=.slice A l.length cap∧l.length≤cap∧cap≤maxLen∧l.length≤140737488355328∧l.length*jZ≤140737488355328:=by
 obtain⟨A,cap,h0,h1,h2,h3,h3',_⟩:=h;exact⟨A,cap,h0,h1,h2,h3',h3⟩
theorem SliceOf.at_{k n cap:Nat}{A:Option Addr}(h:SliceOf R sz jZ w F (.slice A n cap) l)(hk:k<l.length):
  ∃b off cs,A=some ⟨b,off,none⟩∧F b∧cs.length=sz∧R w F cs l[k]∧∀j u,cs[j]? =some u→w.cell? ⟨b,off+k*sz+j,none⟩=some u:=by
 obtain⟨A',cap',e,h1,h2,h3,h3',h4⟩:=h;obtain⟨b,off,rfl,hb,hx⟩:=h4 (by omega);obtain⟨cs,hc,hr,hcell⟩:=hx k _ (List.getElem?_eq_getElem hk);injection e with e1 e2 e3
 exact⟨b,off,cs,e1,hb,hc,hr,hcell⟩
end
def aY:CR ByteArray:=fun _ _ cs s=>cs= [.string s]∧s.size≤140737488355328
theorem aY.stays:eH aY:=fun _ _ _ _ _ _ h _ _=>h
def U8R:CR UInt8:=fun _ _ cs x=>cs= [.int .u8 x.toNat]
theorem U8R.stays:eH U8R:=fun _ _ _ _ _ _ h _ _=>h
def I64(n:Int):Prop:= -9223372036854775808≤n∧n≤9223372036854775807
def okS(s:ByteArray):Prop:=s.size≤140737488355328
inductive Ty where
 |mk (kind:Int) (bT:ByteArray) (name:ByteArray) (args:List Ty)
def Ty.kind:Ty→Int| .mk k _ _ _=>k
def Ty.bT:Ty→ByteArray| .mk _ o _ _=>o
def Ty.name:Ty→ByteArray| .mk _ _ n _=>n
def Ty.args:Ty→List Ty| .mk _ _ _ a=>a
inductive Ex where
 |mk (kind:Int) (n:Int) (bT:ByteArray) (s:ByteArray) (args:List Ex)
def Ex.kind:Ex→Int| .mk k _ _ _ _=>k
def Ex.n:Ex→Int| .mk _ n _ _ _=>n
def Ex.bT:Ex→ByteArray| .mk _ _ o _ _=>o
def Ex.s:Ex→ByteArray| .mk _ _ _ s _=>s
def Ex.args:Ex→List Ex| .mk _ _ _ _ a=>a
structure Known where
 name:ByteArray
 dV:ByteArray
structure kR where
 name:ByteArray
 params:List ByteArray
 result:ByteArray
structure gU where
 types:List Known
 funcs:List kR
structure Import where
 name:ByteArray
 there:Bool
 face:gU
structure og where
 qK:ByteArray
 code:Int
structure Record where
 name:ByteArray
 source:ByteArray
 imports:List Import
 face:gU
 diags:List og
structure Node where
 name:ByteArray
 uses:List ByteArray
structure Field where
 name:ByteArray
 dV:Ty
structure Func where
 name:ByteArray
 dH:ByteArray
 params:List Field
 result:Ty
 body:Ex
structure Module where
 uses:List ByteArray
 types:List Field
 funcs:List Func
def aaK:Nat→CR Ty
 |0,_,_,_,_=>False
 |n+1,w,F,cs,t=>∃av,cs= [.int .i64 t.kind,.string t.bT,.string t.name,av]∧I64 t.kind∧okS t.bT∧okS t.name∧SliceOf (aaK n) 4 64 w F av t.args
def iD:CR Ty:=fun w F cs t=>∃n,aaK n w F cs t
def BF:Nat→CR Ex
 |0,_,_,_,_=>False
 |n+1,w,F,cs,x=>∃av,cs= [.int .i64 x.kind,.int .i64 x.n,.string x.bT,.string x.s,av]∧I64 x.kind∧I64 x.n∧okS x.bT∧okS x.s∧SliceOf (BF n) 5 72 w F av x.args
def dN:CR Ex:=fun w F cs x=>∃n,BF n w F cs x
def aW:CR Known:=fun _ _ cs x=>cs= [.string x.name,.string x.dV]∧okS x.name∧okS x.dV
def fB:CR kR:=fun w F cs x=>∃pv,cs= [.string x.name,pv,.string x.result]∧okS x.name∧okS x.result∧SliceOf aY 1 16 w F pv x.params
def bD:CR gU:=fun w F cs x=>∃tv fv,cs= [tv,fv]∧SliceOf aW 2 32 w F tv x.types∧SliceOf fB 3 56 w F fv x.funcs
def aU:CR Import:=fun w F cs x=>∃tv fv,cs= [.string x.name,.bool x.there,tv,fv]∧okS x.name∧bD w F [tv,fv] x.face
def bn:CR og:=fun _ _ cs x=>cs= [.string x.qK,.int .i64 x.code]∧okS x.qK∧I64 x.code
def Zy:CR Record:=fun w F cs x=>∃iv tv fv dv,cs= [.string x.name,.string x.source,iv,tv,fv,dv]∧okS x.name∧okS x.source∧SliceOf aU 4 72 w F iv x.imports∧bD w F [tv,fv] x.face∧SliceOf bn 2 24 w F dv x.diags
def agi:CR Node:=fun w F cs x=>∃uv,cs= [.string x.name,uv]∧okS x.name∧SliceOf aY 1 16 w F uv x.uses
def aQ:CR Field:=fun w F cs x=>∃tc,cs=.string x.name::tc∧okS x.name∧iD w F tc x.dV
def dF:CR Func:=fun w F cs x=>∃pv tc bc,cs=.string x.name:: .string x.dH::pv::(tc++bc)∧okS x.name∧okS x.dH∧SliceOf aQ 5 80 w F pv x.params∧iD w F tc x.result∧dN w F bc x.body
def aN:CR Module:=fun w F cs x=>∃uv tv fv,cs= [uv,tv,fv]∧SliceOf aY 1 16 w F uv x.uses∧SliceOf aQ 5 80 w F tv x.types∧SliceOf dF 12 192 w F fv x.funcs
theorem aaK.stays:∀n,eH (aaK n)
 |0,_,_,_,_,_,_,h,_,_=>h
 |n+1,_,_,_,_,_,_,⟨av,h,h1,h2,h3,h4⟩,hF,hk=>⟨av,h,h1,h2,h3,h4.stays (aaK.stays n) hF hk⟩
theorem iD.stays:eH iD:=fun _ _ _ _ _ _ ⟨n,h⟩ hF hk=>⟨n,aaK.stays n _ _ _ _ _ _ h hF hk⟩
theorem BF.stays:∀n,eH (BF n)
 |0,_,_,_,_,_,_,h,_,_=>h
 |n+1,_,_,_,_,_,_,⟨av,h,h1,h2,h3,h4,h5⟩,hF,hk=>⟨av,h,h1,h2,h3,h4,h5.stays (BF.stays n) hF hk⟩
theorem dN.stays:eH dN:=fun _ _ _ _ _ _ ⟨n,h⟩ hF hk=>⟨n,BF.stays n _ _ _ _ _ _ h hF hk⟩
theorem aW.stays:eH aW:=fun _ _ _ _ _ _ h _ _=>h
theorem fB.stays:eH fB:=fun _ _ _ _ _ _ ⟨pv,h,h1,h2,h3⟩ hF hk=>⟨pv,h,h1,h2,h3.stays aY.stays hF hk⟩
theorem bD.stays:eH bD:=fun _ _ _ _ _ _ ⟨tv,fv,h,h1,h2⟩ hF hk=>⟨tv,fv,h,h1.stays aW.stays hF hk,h2.stays fB.stays hF hk⟩
theorem aU.stays:eH aU:=fun _ _ _ _ _ _ ⟨tv,fv,h,h1,h2⟩ hF hk=>⟨tv,fv,h,h1,bD.stays _ _ _ _ _ _ h2 hF hk⟩
theorem bn.stays:eH bn:=fun _ _ _ _ _ _ h _ _=>h
theorem Zy.stays:eH Zy:=fun _ _ _ _ _ _ ⟨iv,tv,fv,dv,h,h1,h2,h3,h4,h5⟩ hF hk=>⟨iv,tv,fv,dv,h,h1,h2,h3.stays aU.stays hF hk,bD.stays _ _ _ _ _ _ h4 hF hk,h5.stays bn.stays hF hk⟩
theorem agi.stays:eH agi:=fun _ _ _ _ _ _ ⟨uv,h,h1,h2⟩ hF hk=>⟨uv,h,h1,h2.stays aY.stays hF hk⟩
theorem aQ.stays:eH aQ:=fun _ _ _ _ _ _ ⟨tc,h,h1,h2⟩ hF hk=>⟨tc,h,h1,iD.stays _ _ _ _ _ _ h2 hF hk⟩
theorem dF.stays:eH dF:=fun _ _ _ _ _ _ ⟨pv,tc,bc,h,h1,h2,h3,h4,h5⟩ hF hk=>⟨pv,tc,bc,h,h1,h2,h3.stays aQ.stays hF hk,iD.stays _ _ _ _ _ _ h4 hF hk,dN.stays _ _ _ _ _ _ h5 hF hk⟩
theorem aN.stays:eH aN:=fun _ _ _ _ _ _ ⟨uv,tv,fv,h,h1,h2,h3⟩ hF hk=>⟨uv,tv,fv,h,h1.stays aY.stays hF hk,h2.stays aQ.stays hF hk,h3.stays dF.stays hF hk⟩
open Go.Shelf
theorem laid{n sz:Nat}(f:Nat→List Value)(hf:∀i,i<n→(f i).length=sz):
  ((List.range n).flatMap f).length=n*sz∧∀i j,i<n→j<sz→((List.range n).flatMap f)[i*sz+j]? =(f i)[j]? :=by
 induction n with
 |zero=>simp
 |succ n ih=>
  obtain⟨h1,h2⟩:=ih (fun i hi=>hf i (by omega));rw[List.range_succ,List.flatMap_append];simp only[List.flatMap_cons,List.flatMap_nil,List.append_nil];refine⟨by rw[List.length_append,h1,hf n (by omega),Nat.succ_mul],fun i j hi hj=>?_⟩
  by_cases hin:i<n
  ·have h3:i*sz+j<n*sz:=by
    have:=Nat.mul_le_mul_right sz (show i+1≤n from hin);rw[Nat.succ_mul]at this;omega
   rw[List.getElem?_append_left (by rw[h1];exact h3)];exact h2 i j hin hj
  ·obtain rfl:i=n:=by omega
   rw[List.getElem?_append_right (by rw[h1];omega),h1,Nat.add_sub_cancel_left]
def kE{α:Type}(R:CR α)(sz:Nat)(w:World)(F:aV)(xs:List Value)(l:List α):Prop:=
 xs.length=l.length*sz∧∀i x,l[i]? =some x→∃cs:List Value,cs.length=sz∧R w F cs x∧∀j u,cs[j]? =some u→xs[i*sz+j]? =some u
section
variable {α:Type} {R:CR α} {sz jZ:Nat} {F F':aV} {w w':World} {v:Value} {l m:List α} {xs ys:List Value}
theorem kE.stays(hR:eH R)(h:kE R sz w F xs l)(hF:∀k,F k→F' k)(hk:Keeps F w w'):kE R sz w' F' xs l:=
 ⟨h.1,fun i x hi=>by obtain⟨cs,h1,h2,h3⟩:=h.2 i x hi;exact⟨cs,h1,hR _ _ _ _ _ _ h2 hF hk,h3⟩⟩
theorem kE.nil_:kE R sz w F [] ([]:List α):=⟨by simp,fun i x h=>by simp at h⟩
theorem kE.one{cs:List Value}{x:α}(hl:cs.length=sz)(h:R w F cs x):kE R sz w F cs [x]:=
 ⟨by simp[hl],fun i y hy=>by
  cases i with
  |zero=>simp at hy;subst hy;exact⟨cs,hl,h,fun j u hj=>by simpa using hj⟩
  |succ i=>simp at hy⟩
theorem kE.append(h:kE R sz w F xs l)(k:kE R sz w F ys m):kE R sz w F (xs++ys) (l++m):=by
 refine⟨by rw[List.length_append,List.length_append,h.1,k.1,Nat.add_mul],fun i x hi=>?_⟩
 by_cases hil:i<l.length
 ·rw[List.getElem?_append_left hil]at hi;obtain⟨cs,h1,h2,h3⟩:=h.2 i x hi;refine⟨cs,h1,h2,fun j u hj=>?_⟩;have:=h3 j u hj;have hlt:i*sz+j<xs.length:=(List.getElem?_eq_some_iff.1 this).1;rw[List.getElem?_append_left hlt];exact this
 ·rw[List.getElem?_append_right (by omega)]at hi;obtain⟨cs,h1,h2,h3⟩:=k.2 _ x hi;refine⟨cs,h1,h2,fun j u hj=>?_⟩;have hle:l.length*sz≤i*sz:=Nat.mul_le_mul_right _ (by omega);rw[List.getElem?_append_right (by rw[h.1];omega),h.1,show i*sz+j-l.length*sz=(i-l.length)*sz+j by rw[Nat.sub_mul];omega];exact h3 j u hj
theorem SliceOf.rows{ad:Addr}{n cap:Nat}(h:SliceOf R sz jZ w F (.slice (some ad) n cap) l)(hone:∀cs x,R w F cs x→∀u∈cs,u.oneCell'=true):
  ∃xs,kE R sz w F xs l∧(∀j u,xs[j]? =some u→w.cell? (ad.add j)=some u)∧∀u∈xs,u.oneCell'=true:=by
 obtain⟨A,cap',e,h1,h2,h3,h3',h4⟩:=h;injection e with e1 e2 e3
 subst e1
 by_cases hl:0<l.length
 ·obtain⟨b,off,hA,hb,hx⟩:=h4 hl;injection hA with hA
  subst hA;have hex:∀i,∃cs:List Value,∀x,l[i]? =some x→cs.length=sz∧R w F cs x∧∀j u,cs[j]? =some u→w.cell? ⟨b,off+i*sz+j,none⟩=some u:=fun i=>by
   cases hi:l[i]? with
   |none=>exact⟨[],fun x h=>by cases h⟩
   |some y=>obtain⟨cs,k1,k2,k3⟩:=hx i y hi;exact⟨cs,fun x h=>by injection h with h;subst h;exact⟨k1,k2,k3⟩⟩
  obtain⟨f,hf⟩:=Classical.axiomOfChoice hex;have hlen:∀i,i<l.length→(f i).length=sz:=fun i hi=>(hf i _ (List.getElem?_eq_getElem hi)).1
  obtain⟨q1,q2⟩:=laid f hlen;refine⟨(List.range l.length).flatMap f,⟨q1,fun i x hi=>?_⟩,fun j u hj=>?_,fun u hu=>?_⟩
  ·obtain⟨k1,k2,k3⟩:=hf i x hi;refine⟨f i,k1,k2,fun j u hj=>?_⟩;have hjs:j<sz:=by have:=(List.getElem?_eq_some_iff.1 hj).1;omega
   rw[q2 i j (List.getElem?_eq_some_iff.1 hi).1 hjs];exact hj
  ·have hj':j<l.length*sz:=by have:=(List.getElem?_eq_some_iff.1 hj).1;omega
   have hsz:0<sz:=Nat.pos_of_ne_zero (by rintro rfl;simp at hj');have hi:j / sz<l.length:=Nat.div_lt_of_lt_mul (by rw[Nat.mul_comm];exact hj');have hr:j%sz<sz:=Nat.mod_lt _ hsz;have hsum:j / sz*sz+j%sz=j:=by rw[Nat.mul_comm];exact Nat.div_add_mod j sz
   rw[←hsum,q2 _ _ hi hr]at hj;have:=(hf _ _ (List.getElem?_eq_getElem hi)).2.2 _ _ hj;rw[Nat.add_assoc,hsum]at this;unfold Addr.add;split
   ·next h0=>subst h0;exact this
   ·exact this
  ·obtain⟨i,hi,hu⟩:=List.mem_flatMap.1 hu;exact hone _ _ (hf i _ (List.getElem?_eq_getElem (List.mem_range.1 hi))).2.1 u hu
 ·have hl0:l= []:=List.length_eq_zero_iff.1 (by omega);subst hl0;exact⟨[],kE.nil_,fun j u hj=>by simp at hj,fun u hu=>by simp at hu⟩
theorem IW{base:Nat}{e:TypeId}{n:Nat}(h:w.ownsRow base e sz v n xs)(hn:n=l.length)(hr:kE R sz w F xs l)(hF:∀g,v.ownBlock=some g→F g)
  (hb:l.length*jZ≤140737488355328) (hl:l.length≤140737488355328):SliceOf R sz jZ w F v l:=by
 subst hn;obtain⟨h1,h2⟩:=h;rcases h2 with ⟨rfl,h0⟩|⟨g,cap,cur,rfl,hg,hcell,hc,hm,hs,hxs⟩
 ·have hl0:l= []:=List.length_eq_zero_iff.1 h0;subst hl0;exact SliceOf.nil_
 ·refine⟨_,cap,rfl,hc,hm,hb,hl,fun _=>⟨g,0,rfl,hF g rfl,fun i x hi=>?_⟩⟩;obtain⟨cs,k1,k2,k3⟩:=hr.2 i x hi;refine⟨cs,k1,k2,fun j u hj=>?_⟩;have hx:=k3 j u hj;rw[←hxs]at hx;have hx':cur.toList[i*sz+j]? =some u:=by
   rw[List.getElem?_take]at hx;split at hx
   ·exact hx
   ·cases hx
  simp only[World.cell?,hcell,Nat.zero_add];simpa using hx'
end
theorem aside{p:Prop}(h:p):Aside p:=h
def Box(W:World)(n:Nat)(t:TypeId)(cs:Array Value):Prop:=W.heap[n]? =some (.cells cs t (0,0))
section
variable {W W':World} {n:Nat} {t:TypeId} {cs:Array Value}
theorem Box.lt(h:Box W n t cs):n<W.heap.size:=by
 unfold Box at h;exact(Array.getElem?_eq_some_iff.1 h).1
theorem Box.made(W:World)(t:TypeId)(cs:Array Value):Box (W.alloc (.cells cs t)) W.heap.size t cs:=heap_alloc_new W _
theorem Box.at_(h:Box W n t cs)(i:Nat)(v:Value)(hi:cs[i]? =some v):W.cell? ⟨n,i,none⟩=some v:=by
 unfold Box at h;simp[World.cell?,h,hi]
theorem Box.free(h:Box W n t cs)(i:Nat):W.frozen? ⟨n,i,none⟩=false:=by
 unfold Box at h;simp[World.frozen?,h]
theorem Box.of_heap(h:Box W n t cs)(he:W'.heap[n]? =W.heap[n]?):Box W' n t cs:=he.trans h
theorem Box.alloc(h:Box W n t cs)(o:Obj):Box (W.alloc o) n t cs:=(Below.heap_alloc W o n h.lt).trans h
theorem Box.drew(h:Box W n t cs):Box W.drew n t cs:=h
theorem Box.drewN(h:Box W n t cs)(k:Nat):Box (W.drewN k) n t cs:=h
theorem Box.far(h:Box W n t cs){p:Addr}(hp:n≠p.block)(u:Value):Box (W.setCell p u) n t cs:=(Below.heap_setCell W p u n hp).trans h
theorem Box.put(h:Box W n t cs)(i:Nat)(u:Value):Box (W.setCell ⟨n,i,none⟩ u) n t (cs.setIfInBounds i u):=by
 unfold Box at h⊢;simp[World.setCell,Array.getElem?_modify,h]
theorem Box.later{B:Nat}(h:Box W n t cs)(hb:Below B W W')(hn:n<B):Box W' n t cs:=(hb.block n hn).trans h
theorem Box.grown{row:Option Nat}(h:Box W n t cs)(hg:W.grownBy W' row)(hn:some n≠row):Box W' n t cs:=(hg.block n h.lt hn).trans h
end
section
variable {α:Type} {R:CR α} {sz jZ:Nat} {F:aV} {w w':World} {v:Value} {l:List α}
theorem SliceOf.up(h:SliceOf R sz jZ w F v l)(hR:eH R)(hF:∀k,F k→k<w.heap.size)(hb:Below w.heap.size w w'):SliceOf R sz jZ w' F v l:=
 h.stays hR (fun _ h=>h) (Keeps.of_below hb hF)
theorem bg(hF:∀k,F k→k<w.heap.size){B:Nat}(hb:Below B w w'):∀k,F k→k<w'.heap.size:=fun k hk=>Nat.lt_of_lt_of_le (hF k hk) hb.size
end
theorem bD.form{w:World}{F:aV}{cs:List Value}{a:gU}(h:bD w F cs a):∃T1 e1 T2 e2,cs= [.slice T1 a.types.length e1,.slice T2 a.funcs.length e2]:=by
 obtain⟨tv,fv,rfl,h1,h2⟩:=h;obtain⟨T1,e1,rfl,_⟩:=h1.form;obtain⟨T2,e2,rfl,_⟩:=h2.form;exact⟨_,_,_,_,rfl⟩
def aZ{α:Type}(R:CR α)(sz:Nat)(e:TypeId)(base:Nat)(w:World)(F:aV)(v:Value)(l:List α):Prop:=
 ∃xs,w.ownsRow base e sz v l.length xs∧kE R sz w F xs l∧∀k,F k→k<w.heap.size∧some k≠v.ownBlock
def none_:aV:=fun _=>False
section
variable {α:Type} {R:CR α} {sz jZ base:Nat} {e:TypeId} {F F' G:aV} {w w':World} {v:Value} {l:List α}
theorem YR{xs:List Value}{n:Nat}(h:w.ownsRow base e sz v n xs)(hh:∀g,v.ownBlock=some g→w'.heap[g]? =w.heap[g]?):w'.ownsRow base e sz v n xs:=by
 obtain⟨h1,h2⟩:=h;refine⟨h1,?_⟩;rcases h2 with h2|⟨g,cap,cur,rfl,hg,hc,h3⟩
 ·exact .inl h2
 ·exact .inr ⟨g,cap,cur,rfl,hg,(hh g rfl).trans hc,h3⟩
theorem dY(h:∀k,F k→w'.heap[k]? =w.heap[k]?):Keeps F w w':=fun _ hp=>World.cell?_of_block (h _ hp)
theorem aZ.nil_:aZ R sz e base w none_ (.slice none 0 0) ([]:List α):=⟨[],World.ownsRow_nil _ _ _ _,kE.nil_,fun _ h=>h.elim⟩
theorem aZ.row(h:aZ R sz e base w F v l){g:Nat}(hg:v.ownBlock=some g):base≤g∧g<w.heap.size:=by
 obtain⟨xs,h1,_⟩:=h;exact h1.lt g hg
theorem aZ.foot(h:aZ R sz e base w F v l){k:Nat}(hk:F k):k<w.heap.size∧some k≠v.ownBlock:=by
 obtain⟨xs,_,_,h3⟩:=h;exact h3 k hk
theorem aZ.form(h:aZ R sz e base w F v l):∃A c,v=.slice A l.length c∧l.length≤c∧c≤maxLen:=by
 obtain⟨xs,h1,_⟩:=h;rcases h1.2 with ⟨rfl,h0⟩|⟨g,cap,cur,rfl,_,_,h3,h4,_⟩
 ·exact⟨none,0,by rw[h0],by omega,Nat.zero_le _⟩
 ·exact⟨_,cap,rfl,h3,h4⟩
theorem aZ.low(h:aZ R sz e base w F v l){b:Nat}(hb:b≤base):aZ R sz e b w F v l:=by
 obtain⟨xs,h1,h2,h3⟩:=h;refine⟨xs,⟨h1.1,?_⟩,h2,h3⟩;rcases h1.2 with h4|⟨g,cap,cur,rfl,hg,h5⟩
 ·exact .inl h4
 ·exact .inr ⟨g,cap,cur,rfl,by omega,h5⟩
theorem aZ.kept(hR:eH R)(h:aZ R sz e base w F v l)(hs:w.heap.size≤w'.heap.size)(hh:∀k,k<w.heap.size→(F k∨v.ownBlock=some k)→w'.heap[k]? =w.heap[k]?):aZ R sz e base w' F v l:=by
 obtain⟨xs,h1,h2,h3⟩:=h;exact⟨xs,YR h1 fun g hg=>hh g (h1.lt g hg).2 (.inr hg),h2.stays hR (fun _ h=>h) (dY fun k hk=>hh k (h3 k hk).1 (.inl hk)),fun k hk=>⟨Nat.lt_of_lt_of_le (h3 k hk).1 hs,(h3 k hk).2⟩⟩
theorem aZ.below(hR:eH R)(h:aZ R sz e base w F v l)(hb:Below w.heap.size w w'):aZ R sz e base w' F v l:=
 h.kept hR hb.size fun k hk _=>hb.block k hk
theorem aZ.alloc(hR:eH R)(h:aZ R sz e base w F v l)(o:Obj):aZ R sz e base (w.alloc o) F v l:=
 h.below hR ((Below.refl _ _).alloc (Nat.le_refl _) _)
theorem aZ.wider(hR:eH R)(h:aZ R sz e base w F v l)(hF:∀k,F k→F' k)(hF':∀k,F' k→k<w.heap.size∧some k≠v.ownBlock):aZ R sz e base w F' v l:=by
 obtain⟨xs,h1,h2,h3⟩:=h;exact⟨xs,h1,h2.stays hR hF (Keeps.refl _ _),hF'⟩
theorem aZ.set(hR:eH R)(h:aZ R sz e base w F v l){p:Addr}(hp:p.block<base)(hF:∀k,F k→k≠p.block)(u:Value):aZ R sz e base (w.setCell p u) F v l:=
 h.kept hR (by simp[World.setCell]) fun k _ hk=>Below.heap_setCell _ _ _ _ (hk.elim (hF k) fun hk=>by have:=(h.row hk).1;omega)
theorem aZ.slice(hR:eH R)(h:aZ R sz e base w F v l)(hF:∀k,F k→F' k)(hF':∀k,base≤k→k<w.heap.size→F' k)(hb:l.length*jZ≤140737488355328)(hl:l.length≤140737488355328):SliceOf R sz jZ w F' v l:=by
 obtain⟨xs,h1,h2,h3⟩:=h;exact IW h1 rfl (h2.stays hR hF (Keeps.refl _ _)) (fun g hg=>hF' g (h1.lt g hg).1 (h1.lt g hg).2) hb hl
theorem aZ.pushed(hR:eH R){w0:World}{v':Value}{cs:List Value}{y:α}(h:aZ R sz e base w0 F v l)(hw:∀k,k<w0.heap.size→some k≠v.ownBlock→w'.heap[k]? =w0.heap[k]?)(hs:w0.heap.size≤w'.heap.size)
  (hrow:∃xs,w0.ownsRow base e sz v l.length xs∧kE R sz w0 F xs l∧w'.ownsRow base e sz v' (l.length+1) (xs++cs)) (hc:cs.length=sz) (hy:R w0 G cs y) (hG:∀k,G k→k<w0.heap.size∧some k≠v.ownBlock)
  (hv:v'.ownBlock=v.ownBlock∨∃g,v'.ownBlock=some g∧w0.heap.size≤g):aZ R sz e base w' (fun k=>F k∨G k) v' (l++ [y]):=by
 obtain⟨xs,h1,h2,h3⟩:=hrow;have hne:∀k,F k∨G k→k<w0.heap.size∧some k≠v.ownBlock:=fun k hk=>hk.elim h.foot (hG k)
 refine⟨xs++cs,by rw[List.length_append];exact h3,kE.append (h2.stays hR (fun _ h=>.inl h) (dY fun k hk=>?_)) (kE.one hc (hR _ _ _ _ _ _ hy (fun _ h=>.inr h) (dY fun k hk=>?_))),fun k hk=>?_⟩
 ·exact hw k (h.foot hk).1 (h.foot hk).2
 ·exact hw k (hG k hk).1 (hG k hk).2
 ·refine⟨Nat.lt_of_lt_of_le (hne k hk).1 hs,?_⟩;rcases hv with hv|⟨g,hv,hg⟩
  ·rw[hv];exact(hne k hk).2
  ·rw[hv];intro e;injection e with e
   have:=(hne k hk).1;omega
end
section
variable {α:Type} {R:CR α} {F F':aV} {w w':World} {cs:List Value} {x:α}
theorem eH.set(hR:eH R)(h:R w F cs x){p:Addr}(hp:¬F p.block)(u:Value):R (w.setCell p u) F cs x:=hR _ _ _ _ _ _ h (fun _ h=>h) ((Keeps.refl _ _).setCell hp u)
theorem eH.wider(hR:eH R)(h:R w F cs x)(hF:∀k,F k→F' k):R w F' cs x:=hR _ _ _ _ _ _ h hF (Keeps.refl _ _)
theorem eH.later(hR:eH R)(h:R w F cs x){B:Nat}(hb:Below B w w')(hF:∀k,F k→k<B):R w' F cs x:=hR _ _ _ _ _ _ h (fun _ h=>h) (Keeps.of_below hb hF)
theorem eH.alloc(hR:eH R)(h:R w F cs x)(hF:∀k,F k→k<w.heap.size)(o:Obj):R (w.alloc o) F cs x:=hR _ _ _ _ _ _ h (fun _ h=>h) ((Keeps.refl _ _).alloc hF o)
end
theorem fH{n m k:Nat}(h:k<n):¬fresh n m k:=fun e=>by have:=e.1;omega
theorem jQ{n n' m m':Nat}(h:n'≤n)(h':m≤m'):∀k,fresh n m k→fresh n' m' k:=fun k hk=>⟨by have:=hk.1;omega,by have:=hk.2;omega⟩
theorem cZ{n m:Nat}:∀k,fresh n m k→k<m:=fun _ hk=>hk.2
theorem size_set(w:World)(p:Addr)(u:Value):(w.setCell p u).heap.size=w.heap.size:=by simp[World.setCell]
structure Grew(base:Nat)(w w':World)(row:Option Nat):Prop where
 os:w'.os=w.os
 tape:w'.tape=w.tape
 output:w'.output=w.output
 size:w.heap.size≤w'.heap.size
 block:∀k,k<w.heap.size→some k≠row→w'.heap[k]? =w.heap[k]?
 low:∀k,row=some k→base≤k
theorem Grew.below{base B:Nat}{w w':World}{row:Option Nat}(h:Grew base w w' row)(hB:B≤base)(hs:B≤w.heap.size):Below B w w':=
 ⟨h.os,h.tape,h.output,h.size,fun k hk=>h.block k (by omega) (fun e=>by have:=h.low k e.symm;omega)⟩
theorem Grew.box{base n:Nat}{w w':World}{row:Option Nat}{t:TypeId}{cs:Array Value}(h:Grew base w w' row)(hB:Box w n t cs)(hn:n<base):Box w' n t cs:=
 hB.of_heap (h.block n hB.lt (fun e=>by have:=h.low n e.symm;omega))
section
variable {α:Type} {R:CR α} {size bytes base:Nat} {e:TypeId} {F G:aV} {w:World} {v:Value} {l:List α} {P:Program}
theorem bH(hR:eH R)(z:Value)(cs:List Value)(y:α){ops:Array Oper}{rest:List Oper}{o:Oper}{a:Act}{Q:Exit→Act→World→Prop}{s x:Operand}{t:TypeId}(hgd:o.guard=none)
  (ho:o.op=.call { callee:=.builtin .append,args:= #[s,x],argTypes:= #[t,t] })
  (ht:P.underlying t=some (.slice e)) (hi:(P.info? e).map (fun i=>(i.zero,i.size,i.bytes))=some (some z,size,bytes))
  (hown:aZ R size e base w F v l) (hs:a.eval s=v) (hzs:z.cells.size=size) (hsz:0<size)
  {c:Nat} (hx:a.eval x=.slice (some ⟨w.heap.size,0,none⟩) 1 c) (hc:cs.length=size) (hy:R w G cs y) (h1:∀u∈cs,u.oneCell'=true)
  (hG:∀k,G k→k<w.heap.size∧some k≠v.ownBlock) (h63:l.length+1≤maxLen) (hbytes:(l.length+1)*bytes≤140737488355328) (hbase:base≤w.heap.size)
  (h:∀A c w',aZ R size e base w' (fun k=>F k∨G k) (.slice A (l.length+1) c) (l++ [y])→Grew base w w' v.ownBlock→
   ((Value.slice A (l.length+1) c).ownBlock=v.ownBlock∨∃g,(Value.slice A (l.length+1) c).ownBlock=some g∧w.heap.size≤g)→wpList P ops Q rest (a.put o.dst (.slice A (l.length+1) c)) w'):
  wpList P ops Q (o::rest) a (w.alloc (.cells cs.toArray e)):=by
 obtain⟨i,hi0,hz,hsize,hby⟩:=info_parts hi;have hown1:=hown.alloc hR (.cells cs.toArray e);obtain⟨xs,hr,hrows,hf⟩:=hown;have hws:(w.alloc (.cells cs.toArray e)).heap.size=w.heap.size+1:=by simp
 have hn0:(w.alloc (.cells cs.toArray e)).heap[w.heap.size]? =some (.cells cs.toArray e (0,0)):=heap_alloc_new w _;have hr1:(w.alloc (.cells cs.toArray e)).ownsRow base e size v l.length xs:=hr.alloc _;refine wpList_append_own_at _ hgd s x t ho base e i z size bytes ht hi0 hz hsize hby hzs hsz v l.length xs hs hr1 ⟨w.heap.size,0,none⟩ 1 c cs hx (by rw[hc,Nat.one_mul]) (fun j u hj=>?_) h1 h63 hbytes (by omega) ?_
 ·rw[Addr.add_lit,Nat.zero_add];simp only[World.cell?,hn0];simpa using hj
 ·intro v' w' hown' hgrow _ hloc;obtain⟨A,cc,rfl⟩:∃A cc,v'=.slice A (l.length+1) cc:=by
   rcases hown'.2 with ⟨rfl,h0⟩|⟨g,cap,cur,rfl,_⟩
   ·omega
   ·exact⟨_,_,rfl⟩
  have hlt:∀k,v.ownBlock=some k→base≤k∧k<w.heap.size:=fun k hk=>hr.lt k hk
  have hkeep:∀k,k<w.heap.size→some k≠v.ownBlock→w'.heap[k]? =w.heap[k]? :=fun k hk hne=>by
   rw[hgrow.block k (by omega) hne,Below.heap_alloc _ _ _ hk]
  have hloc':(Value.slice A (l.length+1) cc).ownBlock=v.ownBlock∨∃g,(Value.slice A (l.length+1) cc).ownBlock=some g∧w.heap.size≤g:=hloc.imp id fun hg=>⟨_,hg,by omega⟩
  have hsz':w.heap.size≤w'.heap.size:=Nat.le_trans (by omega) hgrow.size;refine h A cc w' ?_ ⟨hgrow.os,hgrow.tape,hgrow.output,hsz',hkeep,fun k hk=>(hlt k hk).1⟩ hloc';exact aZ.pushed hR ⟨xs,hr,hrows,hf⟩ hkeep hsz' ⟨xs,hr,hrows,hown'⟩ hc hy hG hloc'
end
section
variable {α:Type} {R:CR α} {sz jZ:Nat} {F:aV} {w U:World} {cs:List Value} {v:Value} {x:α} {l:List α}
theorem DU(hR:eH R)(h:R w F cs x)(hF:∀k,F k→k<w.heap.size):R w (old w.heap.size) cs x:=hR _ _ _ _ _ _ h hF (Keeps.refl _ _)
theorem dI(hR:eH R)(h:R w (old w.heap.size) cs x)(hb:Below w.heap.size w U):R U (old U.heap.size) cs x:=
 hR _ _ _ _ _ _ h (fun _ hk=>Nat.lt_of_lt_of_le hk hb.size) (Keeps.of_below hb fun _ hk=>hk)
theorem FD(hR:eH R)(h:SliceOf R sz jZ w F v l)(hF:∀k,F k→k<w.heap.size):SliceOf R sz jZ w (old w.heap.size) v l:=h.stays hR hF (Keeps.refl _ _)
theorem bK(hR:eH R)(h:SliceOf R sz jZ w (old w.heap.size) v l)(hb:Below w.heap.size w U):SliceOf R sz jZ U (old U.heap.size) v l:=
 h.stays hR (fun _ hk=>Nat.lt_of_lt_of_le hk hb.size) (Keeps.of_below hb fun _ hk=>hk)
theorem eF{n:Nat}:∀k,old n k→k<n:=fun _ h=>h
end
theorem lK{α:Type}{R:CR α}{size bytes base:Nat}{e:TypeId}{F G:aV}{w:World}{v:Value}{l:List α}{P:Program}
  (hR:eH R) (z:Value) (cs:List Value) (y:α) {ops:Array Oper} {o:Oper} {a:Act} {K:Act→World→Prop} {Q:Exit→Act→World→Prop} {E:Prop} (s x:Operand) (t:TypeId) (hgd:o.guard=none)
  (ho:o.op=.call { callee:=.builtin .append,args:= #[s,x],argTypes:= #[t,t] })
  (ht:P.underlying t=some (.slice e)) (hi:(P.info? e).map (fun i=>(i.zero,i.size,i.bytes))=some (some z,size,bytes))
  (hown:aZ R size e base w F v l) (hs:a.eval s=v) (hzs:z.cells.size=size) (hsz:0<size)
  {B c:Nat} (hx:a.eval x=.slice (some ⟨B,0,none⟩) 1 c) {te:TypeId} (hB:w.heap[B]? =some (.cells cs.toArray te (0,0))) (hc:cs.length=size) (hy:R w G cs y) (h1:∀u∈cs,u.oneCell'=true)
  (hG:∀k,G k→k<w.heap.size∧some k≠v.ownBlock) (h63:l.length+1≤maxLen) (hbytes:(l.length+1)*bytes≤140737488355328) (hbase:base≤w.heap.size)
  (h:∀A c w',aZ R size e base w' (fun k=>F k∨G k) (.slice A (l.length+1) c) (l++ [y])→Grew base w w' v.ownBlock→
   ((Value.slice A (l.length+1) c).ownBlock=v.ownBlock∨∃g,(Value.slice A (l.length+1) c).ownBlock=some g∧w.heap.size≤g)→K (a.put o.dst (.slice A (l.length+1) c)) w'):
  if Region.wanted o (yielded ops a.tmps)=true then Oper.wp P o a w K Q else E:=by
 obtain⟨i,hi0,hz,hsize,hby⟩:=info_parts hi;obtain⟨xs,hr,hrows,hf⟩:=hown;refine step_append_lies w hgd s x t ho base e i z size bytes ht hi0 hz hsize hby hzs hsz v l.length xs hs hr ⟨B,0,none⟩ 1 c cs hx (by rw[hc,Nat.one_mul]) (fun j u hj=>World.news_of_block hB j u (by simpa using hj)) h1 (by omega) h63 hbytes (by omega) w.heap.size rfl ?_;intro g cap w' hown' hgrow hat hlt;have hlo:∀k,v.ownBlock=some k→base≤k∧k<w.heap.size:=fun k hk=>hr.lt k hk
 have hloc:(Value.slice (some ⟨g,0,none⟩) (l.length+1) cap).ownBlock=v.ownBlock∨∃g',(Value.slice (some ⟨g,0,none⟩) (l.length+1) cap).ownBlock=some g'∧w.heap.size≤g':=hat.imp (fun h=>h.symm) fun h=>⟨g,rfl,by omega⟩
 exact h _ _ w' (aZ.pushed hR ⟨xs,hr,hrows,hf⟩ hgrow.block hgrow.size ⟨xs,hr,hrows,hown'⟩ hc hy hG hloc) ⟨hgrow.os,hgrow.tape,hgrow.output,hgrow.size,hgrow.block,fun k hk=>(hlo k hk).1⟩ hloc
theorem iI{W w7:World}{cs:Array Value}{t:TypeId}(hb:Below (W.alloc (.cells cs t)).heap.size (W.alloc (.cells cs t)) w7):Box w7 W.heap.size t cs:=(Box.made W t cs).later hb (Box.made W t cs).lt
theorem gI{W w7:World}{cs:Array Value}{t:TypeId}(hb:Below (W.alloc (.cells cs t)).drew.heap.size (W.alloc (.cells cs t)).drew w7):Box w7 W.heap.size t cs:=(Box.made W t cs).drew.later hb (Box.made W t cs).lt
theorem iJ{w b:World}{o:Obj}(k:Below (w.alloc o).drew.heap.size (w.alloc o).drew b):Below w.heap.size w b:=(show Below w.heap.size w (w.alloc o).drew by go_grown).trans (k.mono (by simp))
theorem aS{w a b:World}(h:Below w.heap.size w a)(k:Below a.heap.size a b):Below w.heap.size w b:=h.trans (k.mono h.size)
theorem lW{w a b:World}{o:Obj}(h:Below w.heap.size w a)(k:Below (a.alloc o).heap.size (a.alloc o) b):Below w.heap.size w b:=(h.alloc h.size o).trans (k.mono (h.alloc h.size o).size)
section
variable {α:Type} {R:CR α} {size bytes base:Nat} {e:TypeId} {F G:aV} {w w':World} {v v':Value} {l m:List α} {P:Program}
theorem aZ.joined(hR:eH R){ys:List Value}(h:aZ R size e base w F v l)(hw:∀k,k<w.heap.size→some k≠v.ownBlock→w'.heap[k]? =w.heap[k]?)(hs:w.heap.size≤w'.heap.size)
  (hrow:∃xs,w.ownsRow base e size v l.length xs∧kE R size w F xs l∧w'.ownsRow base e size v' (l.length+m.length) (xs++ys)) (hy:kE R size w G ys m) (hG:∀k,G k→k<w.heap.size∧some k≠v.ownBlock)
  (hv:v'.ownBlock=v.ownBlock∨∃g,v'.ownBlock=some g∧w.heap.size≤g):aZ R size e base w' (fun k=>F k∨G k) v' (l++m):=by
 obtain⟨xs,h1,h2,h3⟩:=hrow;have hne:∀k,F k∨G k→k<w.heap.size∧some k≠v.ownBlock:=fun k hk=>hk.elim h.foot (hG k)
 refine⟨xs++ys,by rw[List.length_append];exact h3,kE.append (h2.stays hR (fun _ h=>.inl h) (dY fun k hk=>?_)) (hy.stays hR (fun _ h=>.inr h) (dY fun k hk=>?_)),fun k hk=>?_⟩
 ·exact hw k (h.foot hk).1 (h.foot hk).2
 ·exact hw k (hG k hk).1 (hG k hk).2
 ·refine⟨Nat.lt_of_lt_of_le (hne k hk).1 hs,?_⟩;rcases hv with hv|⟨g,hv,hg⟩
  ·rw[hv];exact(hne k hk).2
  ·rw[hv];intro e;injection e with e
   have:=(hne k hk).1;omega
theorem Og(hR:eH R)(hone:∀cs x,R w G cs x→∀u∈cs,u.oneCell'=true)(z:Value){jZ:Nat}(t ty:TypeId)(ht:P.underlying t=some (.slice e))(hi:(P.info? e).map (fun i=>(i.zero,i.size,i.bytes))=some (some z,size,bytes))
  (hown:aZ R size e base w F v l) (hzs:z.cells.size=size) (hsz:0<size) {S:Option Addr} {c:Nat} (hsrc:SliceOf R size jZ w G (.slice S m.length c) m)
  (hG:∀k,G k→k<w.heap.size∧some k≠v.ownBlock) (h63:l.length+m.length≤maxLen) (hbytes:(l.length+m.length)*bytes≤140737488355328) (hbase:base≤w.heap.size):
  ∃v' w',(Builtin.append_ #[t,t] ty #[v,.slice S m.length c]).run P w=.ok v' w'∧aZ R size e base w' (fun k=>F k∨G k) v' (l++m)∧Grew base w w' v.ownBlock∧
   (v'.ownBlock=v.ownBlock∨∃g,v'.ownBlock=some g∧w.heap.size≤g):=by
 obtain⟨i,hi0,hz,hsize,hby⟩:=info_parts hi;obtain⟨xs,hr,hrows,hf⟩:=hown;cases S with
 |none=>
  have hm0:m= []:=by
   cases m with
   |nil=>rfl
   |cons x xs=>obtain⟨_,_,_,e,_⟩:=hsrc.at_ (k:=0) (by simp);cases e
  subst hm0;refine⟨v,w,?_,?_,⟨rfl,rfl,rfl,Nat.le_refl _,fun _ _ _=>rfl,fun k hk=>(hr.lt k hk).1⟩,.inl rfl⟩
  ·rcases hr.2 with ⟨rfl,h0⟩|⟨g,cap,cur,rfl,_,_,hnc,_⟩
   ·simp[Builtin.append_,run_underlying ht,sizeOf,typeInfo,hi0,Builtin.lenOf,Builtin.firstCells]
   ·simp[Builtin.append_,run_underlying ht,sizeOf,typeInfo,hi0,Builtin.lenOf,Builtin.firstCells,hnc,storeCells]
  ·rw[List.append_nil];exact⟨xs,hr,hrows.stays hR (fun _ h=>.inl h) (Keeps.refl _ _),fun k hk=>hk.elim (hf k) (hG k)⟩
 |some ad=>
  obtain⟨ys,hys,hcells,alj⟩:=hsrc.rows hone;obtain⟨v',w',hrun,h2,h3,_,h5⟩:=run_append_own_at (P:=P) w base t ty e i z size bytes ht hi0 hz hsize hby hzs hsz v l.length xs hr ad m.length c ys hys.1 hcells alj h63 hbytes hbase;have hloc:v'.ownBlock=v.ownBlock∨∃g,v'.ownBlock=some g∧w.heap.size≤g:=h5.imp id fun hg=>⟨_,hg,Nat.le_refl _⟩
  exact⟨v',w',hrun,aZ.joined hR ⟨xs,hr,hrows,hf⟩ h3.block h3.size ⟨xs,hr,hrows,h2⟩ hys hG hloc,⟨h3.os,h3.tape,h3.output,h3.size,h3.block,fun k hk=>(hr.lt k hk).1⟩,hloc⟩
theorem FZ(hR:eH R)(hone:∀cs x,R w G cs x→∀u∈cs,u.oneCell'=true)(z:Value){jZ:Nat}{o:Oper}{a:Act}{K:Act→World→Prop}{Q:Exit→Act→World→Prop}(s x:Operand)(t:TypeId)
  (ho:o.op=.call { callee:=.builtin .append,args:= #[s,x],argTypes:= #[t,t] }) (ht:P.underlying t=some (.slice e)) (hi:(P.info? e).map (fun i=>(i.zero,i.size,i.bytes))=some (some z,size,bytes))
  (hown:aZ R size e base w F v l) (hs:a.eval s=v) (hzs:z.cells.size=size) (hsz:0<size) {S:Option Addr} {c:Nat} (hx:a.eval x=.slice S m.length c) (hsrc:SliceOf R size jZ w G (.slice S m.length c) m)
  (hG:∀k,G k→k<w.heap.size∧some k≠v.ownBlock) (h63:l.length+m.length≤maxLen) (hbytes:(l.length+m.length)*bytes≤140737488355328) (hbase:base≤w.heap.size)
  (h:∀A c w',aZ R size e base w' (fun k=>F k∨G k) (.slice A (l.length+m.length) c) (l++m)→Grew base w w' v.ownBlock→
   ((Value.slice A (l.length+m.length) c).ownBlock=v.ownBlock∨∃g,(Value.slice A (l.length+m.length) c).ownBlock=some g∧w.heap.size≤g)→K (a.put o.dst (.slice A (l.length+m.length) c)) w'):o.wp P a w K Q:=by
 obtain⟨v',w',hrun,ho',hg,hloc⟩:=Og (P:=P) (bytes:=bytes) hR hone z t o.type ht hi hown hzs hsz hsrc hG h63 hbytes hbase;obtain⟨A,c',rfl,_,_⟩:=ho'.form;rw[List.length_append]at hrun ho' hloc;unfold Oper.wp execOp;simp only[ho,resolve,invoke,builtin,Sem.run_bind,Sem.run_pure,Result.andThen_ok,List.map_toArray,List.map_cons,List.map_nil,hs,hx,hrun];exact h A c' w' ho' hg hloc
theorem xG(hR:eH R)(hone:∀cs x,R w G cs x→∀u∈cs,u.oneCell'=true)(z:Value){jZ:Nat}{ops:Array Oper}{rest:List Oper}{o:Oper}{a:Act}{Q:Exit→Act→World→Prop}(s x:Operand)(t:TypeId)(hgd:o.guard=none)
  (ho:o.op=.call { callee:=.builtin .append,args:= #[s,x],argTypes:= #[t,t] }) (ht:P.underlying t=some (.slice e)) (hi:(P.info? e).map (fun i=>(i.zero,i.size,i.bytes))=some (some z,size,bytes))
  (hown:aZ R size e base w F v l) (hs:a.eval s=v) (hzs:z.cells.size=size) (hsz:0<size) {S:Option Addr} {c:Nat} (hx:a.eval x=.slice S m.length c) (hsrc:SliceOf R size jZ w G (.slice S m.length c) m)
  (hG:∀k,G k→k<w.heap.size∧some k≠v.ownBlock) (h63:l.length+m.length≤maxLen) (hbytes:(l.length+m.length)*bytes≤140737488355328) (hbase:base≤w.heap.size)
  (h:∀A c w',aZ R size e base w' (fun k=>F k∨G k) (.slice A (l.length+m.length) c) (l++m)→Grew base w w' v.ownBlock→
   ((Value.slice A (l.length+m.length) c).ownBlock=v.ownBlock∨∃g,(Value.slice A (l.length+m.length) c).ownBlock=some g∧w.heap.size≤g)→wpList P ops Q rest (a.put o.dst (.slice A (l.length+m.length) c)) w'):wpList P ops Q (o::rest) a w:=
 wpList_plain hgd fun _ hK=>FZ hR hone z s x t ho ht hi hown hs hzs hsz hx hsrc hG h63 hbytes hbase fun A c w' h1 h2 h3=>hK _ _ (h A c w' h1 h2 h3)
theorem Nj(hR:eH R)(hone:∀cs x,R w G cs x→∀u∈cs,u.oneCell'=true)(z:Value){jZ:Nat}{ops:Array Oper}{o:Oper}{a:Act}{K:Act→World→Prop}{Q:Exit→Act→World→Prop}{E:Prop}(s x:Operand)(t:TypeId)(hgd:o.guard=none)
  (ho:o.op=.call { callee:=.builtin .append,args:= #[s,x],argTypes:= #[t,t] }) (ht:P.underlying t=some (.slice e)) (hi:(P.info? e).map (fun i=>(i.zero,i.size,i.bytes))=some (some z,size,bytes))
  (hown:aZ R size e base w F v l) (hs:a.eval s=v) (hzs:z.cells.size=size) (hsz:0<size) {S:Option Addr} {c:Nat} (hx:a.eval x=.slice S m.length c) (hsrc:SliceOf R size jZ w G (.slice S m.length c) m)
  (hG:∀k,G k→k<w.heap.size∧some k≠v.ownBlock) (h63:l.length+m.length≤maxLen) (hbytes:(l.length+m.length)*bytes≤140737488355328) (hbase:base≤w.heap.size)
  (h:∀A c w',aZ R size e base w' (fun k=>F k∨G k) (.slice A (l.length+m.length) c) (l++m)→Grew base w w' v.ownBlock→
   ((Value.slice A (l.length+m.length) c).ownBlock=v.ownBlock∨∃g,(Value.slice A (l.length+m.length) c).ownBlock=some g∧w.heap.size≤g)→K (a.put o.dst (.slice A (l.length+m.length) c)) w'):
  if Region.wanted o (yielded ops a.tmps)=true then Oper.wp P o a w K Q else E:=by
 have hw:Region.wanted o (yielded ops a.tmps)=true:=by simp[Region.wanted,hgd]
 rw[if_pos hw];exact FZ hR hone z s x t ho ht hi hown hs hzs hsz hx hsrc hG h63 hbytes hbase h
end
theorem bC(s:ByteArray):s.toList.isEmpty=decide (s.size=0):=by
 rw[ByteArray.toList_eq,Bool.eq_iff_iff,List.isEmpty_iff_length_eq_zero,decide_eq_true_eq];exact Iff.rfl
theorem str_eq(a b:ByteArray):(a.toList==b.toList)=decide (a=b):=by
 rw[ByteArray.toList_eq,ByteArray.toList_eq,Bool.eq_iff_iff,beq_iff_eq,decide_eq_true_eq];exact⟨fun h=>Go.WideShapes.bytes_inj h,fun h=>by rw[h]⟩
theorem aao{s:ByteArray}(h:s.size=0):s=⟨#[]⟩:=by
 cases s with|mk d=>exact congrArg ByteArray.mk (Array.eq_empty_of_size_eq_zero h)
def fidx{α:Type}(p:α→Bool)(l:List α):Int:=match l.findIdx? p with|some i=>(i:Int)|none=> -1
theorem qV{α:Type}{p:α→Bool}{l:List α}{k:Nat}(hk:k<l.length)(h:p l[k]=true)(hb:∀j,j<k→∀x,l[j]? =some x→p x=false):fidx p l=k:=by
 have:l.findIdx? p=some k:=by
  rw[List.findIdx?_eq_some_iff_getElem];refine⟨hk,h,fun j hj=>?_⟩;have:=hb j hj l[j] (List.getElem?_eq_getElem (by omega));simp[this]
 simp[fidx,this]
theorem oK{α:Type}{p:α→Bool}{l:List α}(hb:∀j,j<l.length→∀x,l[j]? =some x→p x=false):fidx p l= -1:=by
 have:l.findIdx? p=none:=by
  rw[List.findIdx?_eq_none_iff];intro x hx;obtain⟨j,hj,rfl⟩:=List.mem_iff_getElem.1 hx;exact hb j hj _ (List.getElem?_eq_getElem hj)
 simp[fidx,this]
theorem qW{α:Type}(p:α→Bool)(l:List α):decide (0≤fidx p l)=l.any p:=by
 unfold fidx;cases h:l.findIdx? p with
 |none=>
  rw[List.findIdx?_eq_none_iff]at h;have:l.any p=false:=by rw[List.any_eq_false];intro x hx;simp[h x hx]
  rw[this];decide
 |some i=>
  obtain⟨hi,hp,_⟩:=List.findIdx?_eq_some_iff_getElem.1 h;have:l.any p=true:=List.any_eq_true.2 ⟨l[i],List.getElem_mem hi,hp⟩;rw[this];simp
theorem nG{α:Type}{p:α→Bool}{l:List α}{k:Nat}(hk:k<l.length)(h:p l[k]=false)(hb:∀j,j<k→∀x,l[j]? =some x→p x=false):∀j,j<k+1→∀x,l[j]? =some x→p x=false:=by
 intro j hj x hx
 by_cases e:j=k
 ·subst e;rw[List.getElem?_eq_getElem hk]at hx;injection hx with hx
  rw[←hx];exact h
 ·exact hb j (by omega) x hx
theorem tH(s:ByteArray):s.data.toList.length=s.size:=rfl
theorem gY(s:ByteArray)(k:Nat)(h:k<s.size):s.data.toList[k]? =some s[k]:=by
 rw[List.getElem?_eq_getElem (show k<s.data.toList.length from h)];rfl
theorem Ba{α:Type}{p:α→Bool}{l:List α}{k:Nat}{x:α}(hk:l[k]? =some x)(h:p x=true):l.any p=true:=
 List.any_eq_true.2 ⟨x,List.mem_of_getElem? hk,h⟩
theorem wK{α:Type}{p:α→Bool}{l:List α}{n:Nat}(hn:l.length≤n)(h:∀j,j<n→∀x,l[j]? =some x→p x=false):l.any p=false:=by
 rw[List.any_eq_false];intro x hx;obtain⟨j,hj,rfl⟩:=List.mem_iff_getElem.1 hx;simp[h j (by omega) _ (List.getElem?_eq_getElem hj)]
theorem qG{α:Type}{p:α→Bool}{l:List α}{k:Nat}{y:α}(hk:l[k]? =some y)(h:p y=false)(hb:∀j,j<k→∀x,l[j]? =some x→p x=false):∀j,j<k+1→∀x,l[j]? =some x→p x=false:=by
 intro j hj x hx
 by_cases e:j=k
 ·subst e;rw[hk]at hx;injection hx with hx
  rw[←hx];exact h
 ·exact hb j (by omega) x hx
def listEq{α β:Type}(p:α→β→Bool):List α→List β→Bool
 |[],[]=>true
 |x::l,y::m=>p x y&&listEq p l m
 |_,_=>false
theorem oG{α β:Type}{p:α→β→Bool}:∀ {l:List α} {m:List β},l.length≠m.length→listEq p l m=false
 |[],[],h=>absurd rfl h
 |[],_::_,_=>rfl
 |_::_,[],_=>rfl
 |x::l,y::m,h=>by
  unfold listEq;rw[oG (fun e=>h (by simp[e])),Bool.and_false]
theorem LJ{α β:Type}{p:α→β→Bool}:∀ {l:List α} {m:List β},l.length=m.length→(∀(j:Nat) x y,l[j]? =some x→m[j]? =some y→p x y=true)→listEq p l m=true
 |[],[],_,_=>rfl
 |x::l,y::m,h,ha=>by
  unfold listEq;rw[ha 0 x y rfl rfl,LJ (by simpa using h) (fun j a b h1 h2=>ha (j+1) a b (by simpa using h1) (by simpa using h2))]
  rfl
 |[],_::_,h,_=>by cases h
 |_::_,[],h,_=>by cases h
theorem jw{α β:Type}{p:α→β→Bool}:∀ {l:List α} {m:List β} {j:Nat} {x:α} {y:β},l[j]? =some x→m[j]? =some y→p x y=false→listEq p l m=false
 |[],_,j,_,_,h,_,_=>by simp at h
 |_::_,[],_,_,_,_,_,_=>rfl
 |a::l,b::m,0,x,y,h1,h2,h3=>by
  simp only[List.getElem?_cons_zero,Option.some.injEq]at h1 h2;subst h1;subst h2;unfold listEq;rw[h3];rfl
 |a::l,b::m,j+1,x,y,h1,h2,h3=>by
  unfold listEq;rw[jw (by simpa using h1) (by simpa using h2) h3,Bool.and_false]
theorem qx{α β:Type}{p:α→β→Bool}{l:List α}{m:List β}{k:Nat}{a:α}{b:β}(h1:l[k]? =some a)(h2:m[k]? =some b)(h:p a b=true)(hb:∀j,j<k→∀x y,l[j]? =some x→m[j]? =some y→p x y=true):∀j,j<k+1→∀x y,l[j]? =some x→m[j]? =some y→p x y=true:=by
 intro j hj x y hx hy
 by_cases e:j=k
 ·subst e;rw[h1]at hx;rw[h2]at hy;injection hx with hx;injection hy with hy
  rw[←hx,←hy];exact h
 ·exact hb j (by omega) x y hx hy
theorem tV{α β:Type}{p:α→β→Bool}{l:List α}{m:List β}(hl:l.length=m.length)(hb:∀j,j<l.length→∀x y,l[j]? =some x→m[j]? =some y→p x y=true):listEq p l m=true:=
 LJ hl fun j x y h1 h2=>hb j (List.getElem?_eq_some_iff.1 h1).1 x y h1 h2
theorem qZ{α:Type}{p:α→α→Bool}(hp:∀x,p x x=true):∀l:List α,listEq p l l=true
 |[]=>rfl
 |x::l=>by unfold listEq;rw[hp,qZ hp l];rfl
def nT(a b:ByteArray):Bool:=Op.bytesLess a.toList b.toList
theorem sS(a b:ByteArray):nT a b=true↔a.data.toList<b.data.toList:=by
 unfold nT;rw[bytesLess_eq,decide_eq_true_eq,ByteArray.toList_eq,ByteArray.toList_eq]
theorem data_inj{a b:ByteArray}(h:a.data.toList=b.data.toList):a=b:=by
 cases a with|mk x=>cases b with|mk y=>cases x;cases y;simp at h;subst h;rfl
theorem DC(a:ByteArray):nT a a=false:=by
 rw[Bool.eq_false_iff];intro h;exact List.lt_irrefl _ ((sS a a).1 h)
theorem tY{a b c:ByteArray}(h:nT a b=true)(k:nT b c=true):nT a c=true:=
 (sS a c).2 (List.lt_trans ((sS a b).1 h) ((sS b c).1 k))
theorem G8{a b:ByteArray}(h:nT a b=true):nT b a=false:=by
 rw[Bool.eq_false_iff];intro k;have:=tY h k;rw[DC]at this;cases this
theorem Bq{a b:ByteArray}(h:nT a b=false)(k:nT b a=false):a=b:=by
 have h1:¬a.data.toList<b.data.toList:=fun e=>by rw[(sS a b).2 e]at h;cases h
 have h2:¬b.data.toList<a.data.toList:=fun e=>by rw[(sS b a).2 e]at k;cases k
 exact data_inj (List.le_antisymm (List.not_lt.1 h2) (List.not_lt.1 h1))
theorem LM{a b:ByteArray}(h:nT a b=true):a≠b:=by
 rintro rfl;rw[DC]at h;cases h
theorem cmp_neg:∀(x y:List UInt8),decide (Lib.compareBytes x y<0)=Op.bytesLess x y
 |[],[]=>by simp[Lib.compareBytes,Op.bytesLess]
 |[],_::_=>by simp[Lib.compareBytes,Op.bytesLess]
 |_::_,[]=>by simp[Lib.compareBytes,Op.bytesLess]
 |a::x,b::y=>by
  have ih:=cmp_neg x y;rw[bytesLess_eq]at ih⊢;unfold Lib.compareBytes
  by_cases h:a<b
  ·simp[h,List.cons_lt_cons_iff]
  ·by_cases k:b<a
   ·have:a≠b:=by rintro rfl;exact h k
    simp only[h,k,if_false,if_true,List.cons_lt_cons_iff,this,false_and,or_false]
    decide
   ·have:a=b:=UInt8.le_antisymm (UInt8.not_lt.1 k) (UInt8.not_lt.1 h);subst this;simp only[h,if_false,List.cons_lt_cons_iff,true_and,false_or];rw[ih]
theorem Ug:∀(x y:List UInt8),Lib.compareBytes x y=0↔x=y
 |[],[]=>by simp[Lib.compareBytes]
 |[],_::_=>by simp[Lib.compareBytes]
 |_::_,[]=>by simp[Lib.compareBytes]
 |a::x,b::y=>by
  have ih:=Ug x y;unfold Lib.compareBytes
  by_cases h:a<b
  ·have:a≠b:=by rintro rfl;exact UInt8.lt_irrefl _ h
   simp[h,this]
  ·by_cases k:b<a
   ·have:a≠b:=by rintro rfl;exact h k
    simp[h,k,this]
   ·have:a=b:=UInt8.le_antisymm (UInt8.not_lt.1 k) (UInt8.not_lt.1 h);subst this;simp[h,ih]
theorem Kv(a b:ByteArray):decide (Lib.compareBytes a.data.toList b.data.toList<0)=nT a b:=by
 unfold nT;rw[cmp_neg,ByteArray.toList_eq,ByteArray.toList_eq]
theorem OV(a b:ByteArray):decide (Lib.compareBytes a.data.toList b.data.toList=0)=decide (a=b):=by
 rw[decide_eq_decide,Ug];exact⟨data_inj,fun h=>by rw[h]⟩
def nN{α:Type}(f:α→ByteArray)(l:List α):Prop:=∀i x y,l[i]? =some x→l[i+1]? =some y→nT (f x) (f y)=true
theorem nN.lt{α:Type}{f:α→ByteArray}{l:List α}(h:nN f l):∀ {i j:Nat} {x y:α},i<j→l[i]? =some x→l[j]? =some y→nT (f x) (f y)=true:=by
 intro i j
 induction j with
 |zero=>intro x y hi;omega
 |succ j ih=>
  intro x y hi hx hy;have hj:j<l.length:=by have:=(List.getElem?_eq_some_iff.1 hy).1;omega
  have hz:=List.getElem?_eq_getElem hj
  by_cases e:i=j
  ·subst e;exact h i x y hx hy
  ·exact tY (ih (by omega) hx hz) (h j _ y hz hy)
def Parts{α:Type}(f:α→ByteArray)(l:List α)(t:ByteArray)(i:Nat):Prop:=
 i≤l.length∧(∀x,0<i→l[i-1]? =some x→nT (f x) t=true)∧∀x,l[i]? =some x→nT (f x) t=false
theorem Parts.ahead{α:Type}{f:α→ByteArray}{l:List α}{t:ByteArray}{i:Nat}(h:nN f l)(p:Parts f l t i){k:Nat}{x:α}(hk:k<i)(hx:l[k]? =some x):nT (f x) t=true:=by
 obtain⟨h1,h2,_⟩:=p;have hj:i-1<l.length:=by omega
 have hy:=List.getElem?_eq_getElem hj
 by_cases e:k=i-1
 ·subst e;exact h2 x (by omega) hx
 ·exact tY (h.lt (show k<i-1 by omega) hx hy) (h2 _ (by omega) hy)
theorem Parts.behind{α:Type}{f:α→ByteArray}{l:List α}{t:ByteArray}{i:Nat}(h:nN f l)(p:Parts f l t i){k:Nat}{x:α}(hk:i≤k)(hx:l[k]? =some x):nT (f x) t=false:=by
 obtain⟨_,_,h3⟩:=p
 by_cases e:k=i
 ·subst e;exact h3 x hx
 ·have hi:i<l.length:=by have:=(List.getElem?_eq_some_iff.1 hx).1;omega
  have hy:=List.getElem?_eq_getElem hi;have h4:=h3 _ hy;have h5:=h.lt (show i<k by omega) hy hx;rw[Bool.eq_false_iff];intro h6;rw[tY h5 h6]at h4;cases h4
theorem Parts.one{α:Type}{f:α→ByteArray}{l:List α}{t:ByteArray}{i j:Nat}(h:nN f l)(p:Parts f l t i)(q:Parts f l t j):i=j:=by
 rcases Nat.lt_trichotomy i j with e|e|e
 ·have hx:=List.getElem?_eq_getElem (show i<l.length by have:=q.1;omega);have h1:=q.ahead h e hx;rw[p.2.2 _ hx]at h1;cases h1
 ·exact e
 ·have hx:=List.getElem?_eq_getElem (show j<l.length by have:=p.1;omega);have h1:=p.ahead h e hx;rw[q.2.2 _ hx]at h1;cases h1
def named{α:Type}(f:α→ByteArray)(l:List α)(t:ByteArray):Option α:=l.find? fun x=>decide (f x=t)
theorem Hf{α:Type}{f:α→ByteArray}{l:List α}{t:ByteArray}{k:Nat}{x:α}(hx:l[k]? =some x)(he:decide (f x=t)=true)(hb:∀j,j<k→∀y,l[j]? =some y→decide (f y=t)=false):named f l t=some x:=by
 unfold named;rw[List.find?_eq_some_iff_getElem];obtain⟨hk,rfl⟩:=List.getElem?_eq_some_iff.1 hx;refine⟨he,k,hk,rfl,fun j hj=>?_⟩;have:=hb j hj _ (List.getElem?_eq_getElem (by omega));simp[this]
theorem DT{α:Type}{f:α→ByteArray}{l:List α}{t:ByteArray}(hb:∀j,j<l.length→∀y,l[j]? =some y→decide (f y=t)=false):named f l t=none:=by
 unfold named;rw[List.find?_eq_none];intro y hy;obtain⟨j,hj,rfl⟩:=List.mem_iff_getElem.1 hy;simp[hb j hj _ (List.getElem?_eq_getElem hj)]
theorem Parts.hit{α:Type}{f:α→ByteArray}{l:List α}{t:ByteArray}{i:Nat}{x:α}(h:nN f l)(p:Parts f l t i)(hx:l[i]? =some x)(he:decide (f x=t)=true):named f l t=some x:=
 Hf hx he fun _ hj _ hy=>decide_eq_false (LM (p.ahead h hj hy))
theorem Parts.miss{α:Type}{f:α→ByteArray}{l:List α}{t:ByteArray}{i:Nat}(h:nN f l)(p:Parts f l t i)(hx:∀x,l[i]? =some x→decide (f x=t)=false):named f l t=none:=
 DT fun j hj y hy=>by
  rcases Nat.lt_trichotomy j i with e|e|e
  ·exact decide_eq_false (LM (p.ahead h e hy))
  ·subst e;exact hx y hy
  ·have hi:i<l.length:=by omega
   have hz:=List.getElem?_eq_getElem hi;have h1:=h.lt e hz hy;have h2:=p.2.2 _ hz;refine decide_eq_false fun e2=>?_
   rw[e2]at h1;rw[h1]at h2;cases h2
def gV(f:Nat→Int):Nat→Int
 |0=>0
 |n+1=>if gV f n=0 then f n else gV f n
theorem fK{f:Nat→Int}:∀ {n:Nat},(∀j,j<n→f j=0)→gV f n=0
 |0,_=>rfl
 |n+1,h=>by
  unfold gV;rw[if_pos (fK fun j hj=>h j (by omega))];exact h n (by omega)
theorem mZ{f:Nat→Int}{n k:Nat}(hk:k<n)(h:∀j,j<k→f j=0)(hf:f k≠0):gV f n=f k:=by
 induction n with
 |zero=>omega
 |succ n ih=>
  unfold gV
  by_cases e:k=n
  ·subst e;rw[if_pos (fK h)]
  ·have h1:=ih (by omega);rw[if_neg (by rw[h1];exact hf),h1]
theorem gq{f:Nat→Int}:∀ {n:Nat},gV f n=0→∀j,j<n→f j=0
 |0,_,j,hj=>by omega
 |n+1,h,j,hj=>by
  unfold gV at h
  by_cases e:gV f n=0
  ·rw[if_pos e]at h
   by_cases e2:j=n
   ·subst e2;exact h
   ·exact gq e j (by omega)
  ·rw[if_neg e]at h;exact absurd h e
theorem jG{f:Nat→Int}{k:Nat}(h:∀j,j<k→f j=0)(hk:f k=0):∀j,j<k+1→f j=0:=by
 intro j hj
 by_cases e:j=k
 ·subst e;exact hk
 ·exact h j (by omega)
theorem Jz(x y:ByteArray):(Op.bytesLess x.toList y.toList||x.toList==y.toList)= !(nT y x):=by
 have h1:Op.bytesLess x.toList y.toList=nT x y:=rfl;have h2:(x.toList==y.toList)=decide (x=y):=by
  rw[ByteArray.toList_eq,ByteArray.toList_eq,Bool.eq_iff_iff,beq_iff_eq,decide_eq_true_eq];exact⟨data_inj,fun h=>by rw[h]⟩
 rw[h1,h2];cases k:nT y x with
 |true=>rw[G8 k,decide_eq_false (fun e=>LM k e.symm)];rfl
 |false=>
  cases k2:nT x y with
  |true=>rfl
  |false=>rw[Bq k2 k];simp
def dL{α:Type}(g:α→Int)(l:List α):Int:=gV (fun j=>match l[j]? with|some x=>g x|none=>0) l.length
theorem eP{α:Type}{g:α→Int}{l:List α}{k:Nat}{x:α}{e:Int}(hx:l[k]? =some x)(he:g x=e)(h0:e≠0)(hb:∀j,j<k→∀y,l[j]? =some y→g y=0):dL g l=e:=by
 subst he;have hk:k<l.length:=(List.getElem?_eq_some_iff.1 hx).1;have h1:(match l[k]? with|some x=>g x|none=>0)=g x:=by rw[hx]
 unfold dL;rw[mZ (f:=fun j=>match l[j]? with|some x=>g x|none=>0) hk (fun j hj=>?_) (by rw[h1];exact h0)]
 ·exact h1
 ·have hjl:j<l.length:=by omega
  simp only[List.getElem?_eq_getElem hjl];exact hb j hj _ (List.getElem?_eq_getElem hjl)
theorem fM{α:Type}{g:α→Int}{l:List α}(hb:∀j,j<l.length→∀y,l[j]? =some y→g y=0):dL g l=0:=by
 unfold dL;refine fK fun j hj=>?_
 simp only[List.getElem?_eq_getElem hj];exact hb j hj _ (List.getElem?_eq_getElem hj)
theorem iZ{α:Type}{g:α→Int}{l:List α}(h:dL g l=0):∀x∈l,g x=0:=by
 intro x hx;obtain⟨j,hj,rfl⟩:=List.mem_iff_getElem.1 hx;have h1:=gq h j hj;simp only[List.getElem?_eq_getElem hj]at h1;exact h1
theorem fO{α:Type}{g:α→Int}{l:List α}{k:Nat}{x:α}(hx:l[k]? =some x)(h:g x=0)(hb:∀j,j<k→∀y,l[j]? =some y→g y=0):∀j,j<k+1→∀y,l[j]? =some y→g y=0:=by
 intro j hj y hy
 by_cases e:j=k
 ·subst e;rw[hx]at hy;injection hy with hy
  rw[←hy];exact h
 ·exact hb j (by omega) y hy
def dQ{α:Type}(name:α→ByteArray)(bad:α→Int)(l:List α)(j:Nat):Int:=
 match l[j]? with
 |none=>0
 |some x=>if bad x=0 then(if 0<j then(match l[j-1]? with|some y=>if nT (name y) (name x)then 0 else 7|none=>0)else 0)else bad x
theorem gW{α:Type}{name:α→ByteArray}{bad:α→Int}{l:List α}{j:Nat}{x:α}{e:Int}(hx:l[j]? =some x)(he:bad x=e)(h:e≠0):dQ name bad l j=e:=by
 subst he;unfold dQ;rw[hx];simp only[];rw[if_neg h]
theorem jv{α:Type}{name:α→ByteArray}{bad:α→Int}{l:List α}{x:α}(hx:l[0]? =some x)(he:bad x=0):dQ name bad l 0=0:=by
 unfold dQ;rw[hx];simp only[];rw[if_pos he,if_neg (Nat.lt_irrefl 0)]
theorem jS{α:Type}{name:α→ByteArray}{bad:α→Int}{l:List α}{j:Nat}{x y:α}(hj:0<j)(hx:l[j]? =some x)(hy:l[j-1]? =some y)(he:bad x=0):dQ name bad l j=if nT (name y) (name x)then 0 else 7:=by
 unfold dQ;rw[hx];simp only[];rw[if_pos he,if_pos hj,hy]
theorem Ak{α:Type}{name:α→ByteArray}{bad:α→Int}{l:List α}(h:∀j,j<l.length→dQ name bad l j=0):nN name l:=by
 intro i x y hx hy;have h1:=h (i+1) (List.getElem?_eq_some_iff.1 hy).1;unfold dQ at h1;rw[hy]at h1;simp only[]at h1
 by_cases hb:bad y=0
 ·rw[if_pos hb,if_pos (Nat.succ_pos i),Nat.add_sub_cancel,hx]at h1;simp only[]at h1;cases k:nT (name x) (name y)with
  |true=>rfl
  |false=>rw[k]at h1;cases h1
 ·rw[if_neg hb]at h1;exact absurd h1 hb
theorem ny{α:Type}{name:α→ByteArray}{bad:α→Int}{l:List α}(h:∀j,j<l.length→dQ name bad l j=0):∀x∈l,bad x=0:=by
 intro x hx;obtain⟨j,hj,rfl⟩:=List.mem_iff_getElem.1 hx;have h1:=h j hj;unfold dQ at h1;rw[List.getElem?_eq_getElem hj]at h1;simp only[]at h1
 by_cases hb:bad l[j]=0
 ·exact hb
 ·rw[if_neg hb]at h1;exact absurd h1 hb
end Go.Proofs.YtjaladhdnbhliaaGreatDoor
