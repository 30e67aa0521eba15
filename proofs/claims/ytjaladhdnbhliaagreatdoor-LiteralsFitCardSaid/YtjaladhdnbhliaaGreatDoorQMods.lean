/- Parts. -/
import Derived.Test.YtjaladhdnbhliaaGreatDoorQTokCutG
set_option maxHeartbeats 4000000
set_option maxRecDepth 100000
namespace Go.Proofs.YtjaladhdnbhliaaGreatDoor
open Go.Proofs.Tryz
open Go.RowKit Go.Shelf
structure jK(bm B:Nat)(w w':World):Prop where
 os:w'.os=w.os
 tape:w'.tape=w.tape
 output:w'.output=w.output
 size:w.heap.size≤w'.heap.size
 block:∀k,k<B→k≠bm→w'.heap[k]? =w.heap[k]?
section
variable {bm B:Nat} {w w' w2:World}
theorem jK.refl(bm B:Nat)(w:World):jK bm B w w:=⟨rfl,rfl,rfl,aJ _,fun _ _ _=>rfl⟩
theorem jK.trans(h:jK bm B w w')(k:jK bm B w' w2):jK bm B w w2:=⟨k.os.trans h.os,k.tape.trans h.tape,k.output.trans h.output,Nat.le_trans h.size k.size,fun j h1 h2=>(k.block j h1 h2).trans (h.block j h1 h2)⟩
theorem jK.of_below{n:Nat}(h:Below n w w')(hn:B≤n):jK bm B w w':=⟨h.os,h.tape,h.output,h.size,fun k hk _=>h.block k (by omega)⟩
theorem jK.aae{row:Option Nat}(h:Grew B w w' row)(hB:B≤w.heap.size):jK bm B w w':=⟨h.os,h.tape,h.output,h.size,fun k hk _=>h.block k (by omega) (fun e=>by have:=h.low k e.symm;omega)⟩
theorem jK.set(h:jK bm B w w')(i:Nat)(u:Value):jK bm B w (w'.setCell ⟨bm,i,none⟩ u):=⟨h.os,h.tape,h.output,by rw[size_set];exact h.size,fun k h1 h2=>(Below.heap_setCell _ _ _ _ (show k≠bm from h2)).trans (h.block k h1 h2)⟩
theorem jK.box{n:Nat}{t:TypeId}{cs:Array Value}(h:jK bm B w w')(hB:Box w n t cs)(h1:n<B)(h2:n≠bm):Box w' n t cs:=hB.of_heap (h.block n h1 h2)
end
structure qg(W:World)(bm B:Nat)(U T X:Option Addr)(cu ct cx:Nat)(m:Module)(Gt Gf:aV):Prop where
 box:Box W bm 27 #[.slice U m.uses.length cu,.slice T m.types.length ct,.slice X m.funcs.length cx]
 us:aZ aY 1 9 B W none_ (.slice U m.uses.length cu) m.uses
 ts:aZ aQ 5 78 B W Gt (.slice T m.types.length ct) m.types
 fs:aZ dF 12 83 B W Gf (.slice X m.funcs.length cx) m.funcs
 lo:∀k,Gt k∨Gf k→B≤k
 ut:Apart (.slice U m.uses.length cu) (.slice T m.types.length ct)
 uf:Apart (.slice U m.uses.length cu) (.slice X m.funcs.length cx)
 tf:Apart (.slice T m.types.length ct) (.slice X m.funcs.length cx)
 gu:∀k,Gt k∨Gf k→(Value.slice U m.uses.length cu).ownBlock≠some k
 gt:∀k,Gf k→(Value.slice T m.types.length ct).ownBlock≠some k
 gf:∀k,Gt k→(Value.slice X m.funcs.length cx).ownBlock≠some k
 low:bm<B
def Ep(W:World)(bm B:Nat)(m:Module):Prop:=∃U T X cu ct cx Gt Gf,qg W bm B U T X cu ct cx m Gt Gf
section
variable {W W':World} {bm B:Nat} {U T X:Option Addr} {cu ct cx:Nat} {m:Module} {Gt Gf:aV}
theorem qg.start(hB:Box W bm 27 #[.slice none 0 0,.slice none 0 0,.slice none 0 0])(h:bm<B):qg W bm B none none none 0 0 0 jJ none_ none_:=
 ⟨hB,aZ.nil_,aZ.nil_,aZ.nil_,fun k hk=>(hk.elim (fun h=>h.elim) (fun h=>h.elim)),fun g h=>(by cases h),fun g h=>(by cases h),fun g h=>(by cases h),fun k hk=>(hk.elim (fun h=>h.elim) (fun h=>h.elim)),fun k hk=>hk.elim,fun k hk=>hk.elim,h⟩
theorem qg.later(h:qg W bm B U T X cu ct cx m Gt Gf)(hb:Below W.heap.size W W'):qg W' bm B U T X cu ct cx m Gt Gf:=
 ⟨h.box.later hb h.box.lt,h.us.below aY.stays hb,h.ts.below aQ.stays hb,h.fs.below dF.stays hb,h.lo,h.ut,h.uf,h.tf,h.gu,h.gt,h.gf,h.low⟩
theorem qg.far(h:qg W bm B U T X cu ct cx m Gt Gf){n:Nat}(hn:n≤W'.heap.size)(hs:W.heap.size≤n)(hk:∀k,k<n→W'.heap[k]? =W.heap[k]?):qg W' bm B U T X cu ct cx m Gt Gf:=
 ⟨h.box.of_heap (hk _ (Nat.lt_of_lt_of_le h.box.lt hs)),h.us.kept aY.stays (by omega) (fun k h1 _=>hk k (by omega)),h.ts.kept aQ.stays (by omega) (fun k h1 _=>hk k (by omega)),h.fs.kept dF.stays (by omega) (fun k h1 _=>hk k (by omega)),h.lo,h.ut,h.uf,h.tf,h.gu,h.gt,h.gf,h.low⟩
theorem qg.touch (h : qg W bm B U T X cu ct cx m Gt Gf) {q : Nat} (hq : q < B) (hqm : q ≠ bm) (hs : W.heap.size ≤ W'.heap.size) (hk : ∀ k, k < W.heap.size → k ≠ q → W'.heap[k]? = W.heap[k]?) : qg W' bm B U T X cu ct cx m Gt Gf :=
  ⟨h.box.of_heap (hk _ h.box.lt (fun e => hqm e.symm)), h.us.kept aY.stays hs (fun k h1 h2 => hk k h1 (fun e => by subst e; exact h2.elim (fun h3 => h3) (fun h3 => by have := (h.us.row h3).1; omega))),
   h.ts.kept aQ.stays hs (fun k h1 h2 => hk k h1 (fun e => by subst e; exact h2.elim (fun h3 => by have := h.lo _ (.inl h3); omega) (fun h3 => by have := (h.ts.row h3).1; omega))),
   h.fs.kept dF.stays hs (fun k h1 h2 => hk k h1 (fun e => by subst e; exact h2.elim (fun h3 => by have := h.lo _ (.inr h3); omega) (fun h3 => by have := (h.fs.row h3).1; omega))), h.lo, h.ut, h.uf, h.tf, h.gu, h.gt, h.gf, h.low⟩
theorem qg.agK(h:qg W bm B U T X cu ct cx m Gt Gf){A:Option Addr}{c:Nat}{s:ByteArray}{F':aV}(hO:aZ aY 1 9 B W' F' (.slice A (m.uses.length+1) c) (m.uses++ [s]))(hF:∀k,F' k→none_ k)(hg:Grew B W W' (Value.slice U m.uses.length cu).ownBlock)
  (hv:(Value.slice A (m.uses.length+1) c).ownBlock=(Value.slice U m.uses.length cu).ownBlock∨∃g,(Value.slice A (m.uses.length+1) c).ownBlock=some g∧W.heap.size≤g):
  qg (W'.setCell ⟨bm,0,none⟩ (.slice A (m.uses.length+1) c)) bm B A T X c ct cx { m with uses:=m.uses++ [s] } Gt Gf:=by
 have hlo:=h.low;have hut:Apart (.slice A (m.uses.length+1) c) (.slice T m.types.length ct):=h.ut.push hv (fun g hg=>(h.ts.row hg).2);have huf:Apart (.slice A (m.uses.length+1) c) (.slice X m.funcs.length cx):=h.uf.push hv (fun g hg=>(h.fs.row hg).2);have hgu:∀k,Gt k∨Gf k→(Value.slice A (m.uses.length+1) c).ownBlock≠some k:=fun k hk e=>by
  rcases hv with hv|⟨g,hv,hl⟩
  ·exact h.gu k hk (hv.symm.trans e)
  ·rw[hv]at e;injection e with e
   have:k<W.heap.size:=hk.elim (fun h1=>(h.ts.foot h1).1) (fun h1=>(h.fs.foot h1).1);omega
 have hb:=(hg.box h.box hlo).put 0 (.slice A (m.uses.length+1) c);simp only[List.setIfInBounds_toArray,List.set_cons_zero]at hb;refine⟨?_,?_,?_,?_,h.lo,?_,?_,h.tf,?_,h.gt,h.gf,hlo⟩
 ·simpa using hb
 ·have:=(aZ.wider aY.stays hO hF (F':=none_) (fun k hk=>hk.elim)).set aY.stays (p:=⟨bm,0,none⟩) hlo (fun k hk=>hk.elim) (.slice A (m.uses.length+1) c);simpa using this
 ·exact(h.ts.kept aQ.stays hg.size (fun k h1 h2=>hg.block k h1 (fun e=>h2.elim (fun h3=>h.gu k (.inl h3) e.symm) (fun h3=>h.ut k e.symm h3)))).set aQ.stays (p:=⟨bm,0,none⟩) hlo (fun k hk=>by have:=h.lo k (.inl hk);show k≠bm;omega) _
 ·exact(h.fs.kept dF.stays hg.size (fun k h1 h2=>hg.block k h1 (fun e=>h2.elim (fun h3=>h.gu k (.inr h3) e.symm) (fun h3=>h.uf k e.symm h3)))).set dF.stays (p:=⟨bm,0,none⟩) hlo (fun k hk=>by have:=h.lo k (.inr hk);show k≠bm;omega) _
 ·simpa using hut
 ·simpa using huf
 ·simpa using hgu
theorem qg.agJ(h:qg W bm B U T X cu ct cx m Gt Gf){A:Option Addr}{c:Nat}{s:Field}{G:aV}(hO:aZ aQ 5 78 B W' (fun k=>Gt k∨G k) (.slice A (m.types.length+1) c) (m.types++ [s]))
  (hG:∀k,G k→B≤k∧k<W.heap.size∧(Value.slice U m.uses.length cu).ownBlock≠some k∧(Value.slice X m.funcs.length cx).ownBlock≠some k) (hg:Grew B W W' (Value.slice T m.types.length ct).ownBlock)
  (hv:(Value.slice A (m.types.length+1) c).ownBlock=(Value.slice T m.types.length ct).ownBlock∨∃g,(Value.slice A (m.types.length+1) c).ownBlock=some g∧W.heap.size≤g):
  qg (W'.setCell ⟨bm,1,none⟩ (.slice A (m.types.length+1) c)) bm B U A X cu c cx { m with types:=m.types++ [s] } (fun k=>Gt k∨G k) Gf:=by
 have hlo:=h.low;have hut:Apart (.slice U m.uses.length cu) (.slice A (m.types.length+1) c):=(h.ut.symm.push hv (fun g hg=>(h.us.row hg).2)).symm;have htf:Apart (.slice A (m.types.length+1) c) (.slice X m.funcs.length cx):=h.tf.push hv (fun g hg=>(h.fs.row hg).2);have hgt:∀k,Gf k→(Value.slice A (m.types.length+1) c).ownBlock≠some k:=fun k hk e=>by
  rcases hv with hv|⟨g,hv,hl⟩
  ·exact h.gt k hk (hv.symm.trans e)
  ·rw[hv]at e;injection e with e
   have:=(h.fs.foot hk).1;omega
 have hlo2:∀k,(Gt k∨G k)∨Gf k→B≤k:=fun k hk=>by
  rcases hk with (hk|hk)|hk
  ·exact h.lo k (.inl hk)
  ·exact(hG k hk).1
  ·exact h.lo k (.inr hk)
 have hb:=(hg.box h.box hlo).put 1 (.slice A (m.types.length+1) c);simp only[List.setIfInBounds_toArray,List.set_cons_zero,List.set_cons_succ]at hb;refine⟨?_,?_,?_,?_,hlo2,?_,h.uf,?_,?_,?_,?_,hlo⟩
 ·simpa using hb
 ·exact(h.us.kept aY.stays hg.size (fun k h1 h2=>hg.block k h1 (fun e=>h2.elim (fun h3=>h3.elim) (fun h3=>h.ut k h3 e.symm)))).set aY.stays (p:=⟨bm,1,none⟩) hlo (fun k hk=>hk.elim) _
 ·have:=hO.set aQ.stays (p:=⟨bm,1,none⟩) hlo (fun k hk=>by have:=hlo2 k (.inl hk);show k≠bm;omega) (.slice A (m.types.length+1) c);simpa using this
 ·exact(h.fs.kept dF.stays hg.size (fun k h1 h2=>hg.block k h1 (fun e=>h2.elim (fun h3=>h.gt k h3 e.symm) (fun h3=>h.tf k e.symm h3)))).set dF.stays (p:=⟨bm,1,none⟩) hlo (fun k hk=>by have:=h.lo k (.inr hk);show k≠bm;omega) _
 ·simpa using hut
 ·simpa using htf
 ·intro k hk;rcases hk with (hk|hk)|hk
  ·exact h.gu k (.inl hk)
  ·exact(hG k hk).2.2.1
  ·exact h.gu k (.inr hk)
 ·simpa using hgt
 ·intro k hk;rcases hk with hk|hk
  ·exact h.gf k hk
  ·exact(hG k hk).2.2.2
theorem qg.agI(h:qg W bm B U T X cu ct cx m Gt Gf){A:Option Addr}{c:Nat}{s:Func}{G:aV}(hO:aZ dF 12 83 B W' (fun k=>Gf k∨G k) (.slice A (m.funcs.length+1) c) (m.funcs++ [s]))
  (hG:∀k,G k→B≤k∧k<W.heap.size∧(Value.slice U m.uses.length cu).ownBlock≠some k∧(Value.slice T m.types.length ct).ownBlock≠some k) (hg:Grew B W W' (Value.slice X m.funcs.length cx).ownBlock)
  (hv:(Value.slice A (m.funcs.length+1) c).ownBlock=(Value.slice X m.funcs.length cx).ownBlock∨∃g,(Value.slice A (m.funcs.length+1) c).ownBlock=some g∧W.heap.size≤g):
  qg (W'.setCell ⟨bm,2,none⟩ (.slice A (m.funcs.length+1) c)) bm B U T A cu ct c { m with funcs:=m.funcs++ [s] } Gt (fun k=>Gf k∨G k):=by
 have hlo:=h.low;have huf:Apart (.slice U m.uses.length cu) (.slice A (m.funcs.length+1) c):=(h.uf.symm.push hv (fun g hg=>(h.us.row hg).2)).symm;have htf:Apart (.slice T m.types.length ct) (.slice A (m.funcs.length+1) c):=(h.tf.symm.push hv (fun g hg=>(h.ts.row hg).2)).symm;have hgf:∀k,Gt k→(Value.slice A (m.funcs.length+1) c).ownBlock≠some k:=fun k hk e=>by
  rcases hv with hv|⟨g,hv,hl⟩
  ·exact h.gf k hk (hv.symm.trans e)
  ·rw[hv]at e;injection e with e
   have:=(h.ts.foot hk).1;omega
 have hlo2:∀k,Gt k∨Gf k∨G k→B≤k:=fun k hk=>by
  rcases hk with hk|hk|hk
  ·exact h.lo k (.inl hk)
  ·exact h.lo k (.inr hk)
  ·exact(hG k hk).1
 have hb:=(hg.box h.box hlo).put 2 (.slice A (m.funcs.length+1) c);simp only[List.setIfInBounds_toArray,List.set_cons_zero,List.set_cons_succ]at hb;refine⟨?_,?_,?_,?_,hlo2,h.ut,?_,?_,?_,?_,?_,hlo⟩
 ·simpa using hb
 ·exact(h.us.kept aY.stays hg.size (fun k h1 h2=>hg.block k h1 (fun e=>h2.elim (fun h3=>h3.elim) (fun h3=>h.uf k h3 e.symm)))).set aY.stays (p:=⟨bm,2,none⟩) hlo (fun k hk=>hk.elim) _
 ·exact(h.ts.kept aQ.stays hg.size (fun k h1 h2=>hg.block k h1 (fun e=>h2.elim (fun h3=>h.gf k h3 e.symm) (fun h3=>h.tf k h3 e.symm)))).set aQ.stays (p:=⟨bm,2,none⟩) hlo (fun k hk=>by have:=h.lo k (.inl hk);show k≠bm;omega) _
 ·have:=hO.set dF.stays (p:=⟨bm,2,none⟩) hlo (fun k hk=>by have:=hlo2 k (.inr hk);show k≠bm;omega) (.slice A (m.funcs.length+1) c);simpa using this
 ·simpa using huf
 ·simpa using htf
 ·intro k hk;rcases hk with hk|hk|hk
  ·exact h.gu k (.inl hk)
  ·exact h.gu k (.inr hk)
  ·exact(hG k hk).2.2.1
 ·intro k hk;rcases hk with hk|hk
  ·exact h.gt k hk
  ·exact(hG k hk).2.2.2
 ·simpa using hgf
end
attribute [local go_sem] Oper.semAt_some
theorem ZV:∀ {x:List UInt8},x.all sH=true→Lib.indexByte x 10= -1
 |[],_=>rfl
 |c::r,h=>by
  rw[List.all_cons,Bool.and_eq_true]at h;have hc:(c==10)=false:=by have:=h.1;unfold sH at this;simpa using this
  unfold Lib.indexByte;rw[hc,ZV h.2];rfl
theorem UN:∀ {x:List UInt8} (r:List UInt8),x.all sH=true→Lib.indexByte (x++10::r) 10=x.length
 |[],_,_=>rfl
 |c::x,r,h=>by
  rw[List.all_cons,Bool.and_eq_true]at h;have hc:(c==10)=false:=by have:=h.1;unfold sH at this;simpa using this
  show Lib.indexByte (c::(x++10::r)) 10=_
  unfold Lib.indexByte;rw[hc,UN r h.2,if_neg (by simp),if_neg (by rw[beq_iff_eq];omega),List.length_cons];omega
theorem Vf:∀r:List UInt8,r.all sH=true∨∃x t,x.all sH=true∧r=x++10::t
 |[]=>.inl rfl
 |c::r=>by
  by_cases hc:c=10
  ·subst hc;exact .inr ⟨[],r,rfl,rfl⟩
  ·have hn:sH c=true:=by unfold sH;simpa using hc
   rcases Vf r with h|⟨x,t,h,rfl⟩
   ·left;rw[List.all_cons,hn,h];rfl
   ·exact .inr ⟨c::x,t,by rw[List.all_cons,hn,h];rfl,rfl⟩
structure Touch(q:Nat)(w w':World):Prop where
 os:w'.os=w.os
 tape:w'.tape=w.tape
 output:w'.output=w.output
 size:w.heap.size≤w'.heap.size
 block:∀k,k<w.heap.size→k≠q→w'.heap[k]? =w.heap[k]?
theorem Touch.set{q:Nat}{w:World}(u:Value):Touch q w (w.setCell ⟨q,0,none⟩ u):=⟨rfl,rfl,rfl,by rw[size_set];exact aJ _,fun k _ hk=>Below.heap_setCell _ _ _ _ (show k≠q from hk)⟩
structure TT(W:World)(q:Nat)(r:List UInt8):Prop where
 s:Box W q 9 #[.string (lit r)]
 sep:Box W (q+1) 9 #[.string ⟨#[10]⟩]
 save:Box W (q+2) 3 #[.int .i64 0]
def YG(q:Nat)(W:World):Nat:=match W.cell? ⟨q,0,none⟩with
 |some (.string s)=>s.size
 |_=>0
theorem Iz{q:Nat}{W:World}{r:List UInt8}(h:TT W q r):YG q W=r.length:=by
 unfold YG;rw[h.s.at_ 0 (.string (lit r)) rfl];exact jT r
theorem Sr{n l q:Nat}(J:List UInt8→World→Prop)(D:World→Prop)(E:List PanicEntry→World→Prop)
  (hJ:∀r W W',J r W→Touch q W W'→J r W')
  (hY:∀x r W,x.all sH=true→J (x++10::r) W→TT W q (x++10::r)→YieldAt Fence.wide (n-1) prog l #[.string (lit x)] W fun e W'=>(e=.returned (.bool true)∧J r W'∧TT W' q (x++10::r))∨∃ch,e=.panicked ch∧E ch W')
  (hL:∀x W,x.all sH=true→J x W→YieldAt Fence.wide (n-1) prog l #[.string (lit x)] W fun e W'=>(e=.returned (.bool true)∧D W')∨∃ch,e=.panicked ch∧E ch W')
  (r0:List UInt8) (W:World) (hr:r0.length≤2000) (h0:J r0 W) (hT:TT W q r0):
  CallsIn Fence.wide n prog 188 #[.func (.yield l) #[] #[],.pointer (some ⟨q+1,0,none⟩),.pointer (some ⟨q,0,none⟩),.pointer (some ⟨q+2,0,none⟩)] W fun e W'=>(∃v,e=.returned v∧D W')∨∃ch,e=.panicked ch∧E ch W':=by
 refine callsIn_of_wp func188 rfl trivial ?_ rfl;simp only[ntmps188,List.size_toArray,List.length_cons,List.length_nil,Nat.reduceAdd,Nat.reduceSub,Array.replicate_succ,Array.replicate_zero,List.push_toArray,List.append_toArray,List.nil_append,List.cons_append];have hs1:=hT.sep;have x0:=hs1.at_ 0 _ rfl
 gi_wp2
 clear x0 hs1
 gi_loopw [] (fun wr=>∃r:List UInt8,r.length≤2000∧Aside (J r wr)∧Aside (TT wr q r)) (YG q)
 case atStart=>exact⟨r0,hr,aside h0,aside hT⟩
 case round=>
  clear h0 hT;obtain⟨r,hr,hJr,hTr⟩:=hrel;obtain⟨W1,rfl⟩:∃W,W=wr:=⟨_,rfl⟩;rcases Vf r with hn|⟨x,t,hn,rfl⟩
  ·have hix:=(callsIn_wide (n:=n-1)).2 (Tryz.strings_Index_one (lit r) 10 W1);rw[show(lit r).data.toList=r from rfl,ZV hn]at hix;have h1:=hTr.out.s;have h2:=hTr.out.sep;have x0:=h1.at_ 0 _ rfl;have y0:=h2.at_ 0 _ rfl;obtain⟨fn,tmps,assign,body,hy,hR⟩:=hL r W1 hn hJr.out;obtain⟨HIX,HR⟩:=aj hix hR;clear hix hR;clear h1 h2 hJ hY hL
   gi_wp2
   refine⟨trivial,fun h=>(by cases h),HIX.out.mono ?_⟩;rintro e w' ⟨rfl,rfl⟩
   gi_wp2
   refine⟨fun h=>(by cases h),HR.out.mono ?_⟩;rintro e W2 (⟨rfl,hD⟩|⟨ch,rfl,hE⟩)
   ·gi_wp2
    go_end0
    exact .inl ⟨_,rfl,hD⟩
   ·gi_wp2
    exact⟨rfl,.inr ⟨ch,rfl,hE⟩⟩
  ·have hix:=(callsIn_wide (n:=n-1)).2 (Tryz.strings_Index_one (lit (x++10::t)) 10 W1);rw[show(lit (x++10::t)).data.toList=x++10::t from rfl,UN t hn]at hix;have h1:=hTr.out.s;have h2:=hTr.out.sep;have h3:=hTr.out.save;have x0:=h1.at_ 0 _ rfl;have y0:=h2.at_ 0 _ rfl;have z0:=h3.at_ 0 _ rfl;obtain⟨fn,tmps,assign,body,hy,hR⟩:=hY x t W1 hn hJr.out hTr.out;have hxl:x.length≤(lit (x++10::t)).size:=by rw[jT,List.length_append];omega
   have hxz:¬((x.length:Int)<0):=by omega
   have hlx:x.length+t.length+1≤2000:=by rw[List.length_append,List.length_cons]at hr;omega
   have hw1:wrap64 (x.length:Int)=x.length:=IntWalk.wrap64_in _ (by omega);have hw2:wrap64 ((x.length:Int)+1)=(x.length:Int)+1:=IntWalk.wrap64_in _ (by omega);have ard:((lit (x++10::t)).size:Int)=x.length+t.length+1:=by rw[jT,List.length_append,List.length_cons];omega
   have hb1:(x.length:Int)≤((lit (x++10::t)).size:Int):=by omega
   have hb2:(x.length:Int)+1≤((lit (x++10::t)).size:Int):=by omega
   have hxe:(lit (x++10::t)).extract 0 x.length=lit x:=by rw[qN];show lit ((x++10::t).take x.length)=_;rw[List.take_left]
   rw[←hxe]at hy;obtain⟨HIX,HR,HXE⟩:=ak hix hR hxe;clear hix hR hxe;clear h1 h2 h3 hL
   gi_wp2
   refine⟨trivial,fun h=>(by cases h),HIX.out.mono ?_⟩;rintro e w' ⟨rfl,rfl⟩
   gi_wp2
   refine⟨fun h=>(by cases h),HR.out.mono ?_⟩;rintro e W2 (⟨rfl,hJ2,hT2⟩|⟨ch,rfl,hE⟩)
   ·clear x0 y0 z0;have h1:=hT2.s;have h2:=hT2.sep;have x0:=h1.at_ 0 _ rfl;have g0:=h1.free 0;have y0:=h2.at_ 0 _ rfl;have hxf:(lit (x++10::t)).extract (x.length+1) (lit (x++10::t)).size=lit t:=by
     rw[qN]
     show lit (((x++10::t).drop (x.length+1)).take _)=_
     rw[show x.length+1=(x++ [10]).length by simp,show x++10::t=(x++ [10])++t by simp,List.drop_left,List.take_of_length_le];rw[jT];simp;omega
    obtain⟨HT2,HJ2,HXF⟩:=ak hT2 hJ2 hxf;clear hT2 hJ2 hxf;clear h1 h2
    gi_wp2
    rw[HXF.out];have Cc:TT (W2.setCell ⟨q,0,none⟩ (.string (lit t))) q t:=⟨by simpa using HT2.out.s.put 0 (.string (lit t)),HT2.out.sep.far (show q+1≠q by omega) _,HT2.out.save.far (show q+2≠q by omega) _⟩;exact⟨⟨t,by omega,aside (hJ t _ _ HJ2.out (Touch.set _)),aside Cc⟩,by rw[Iz Cc,Iz hTr.out,List.length_append,List.length_cons];omega⟩
   ·gi_wp2
    exact⟨rfl,.inr ⟨ch,rfl,hE⟩⟩
theorem Sv(s:ByteArray)(w:World):Calls prog 79 #[.string s,.string ⟨#[10]⟩] w fun e w'=>
  e=.returned (.func (.func 188) #[] #[.pointer (some ⟨w.heap.size+1,0,none⟩),.pointer (some ⟨w.heap.size,0,none⟩),.pointer (some ⟨w.heap.size+2,0,none⟩)])∧TT w' w.heap.size s.data.toList∧Below w.heap.size w w'∧w'.heap.size=w.heap.size+3:=by
 have hmf:∀(fn:Fn) (first cap:Array Value) (w:World),(Instr.makeFunc fn first cap).run prog w=.ok (.func fn first cap) w:=fun _ _ _ _=>rfl
 go_enter func79,ntmps79;go_wp2;have EM:=(((Box.made w 9 #[.string s]).alloc (.cells #[.string ⟨#[10]⟩] 9)).alloc (.cells #[.int .i64 0] 3));have Gz:=((Box.made (w.alloc (.cells #[.string s] 9)) 9 #[.string ⟨#[10]⟩]).alloc (.cells #[.int .i64 0] 3));rw[show(w.alloc (.cells #[.string s] 9)).heap.size=w.heap.size+1 by simp only[World.size_alloc]]at Gz;have ahQ:=(Box.made ((w.alloc (.cells #[.string s] 9)).alloc (.cells #[.string ⟨#[10]⟩] 9)) 3 #[.int .i64 0]);rw[show((w.alloc (.cells #[.string s] 9)).alloc (.cells #[.string ⟨#[10]⟩] 9)).heap.size=w.heap.size+1+1 by simp only[World.size_alloc]]at ahQ;have hbr:Below w.heap.size w (((w.alloc (.cells #[.string s] 9)).alloc (.cells #[.string ⟨#[10]⟩] 9)).alloc (.cells #[.int .i64 0] 3)):=by go_grown
 have kJ:(((w.alloc (.cells #[.string s] 9)).alloc (.cells #[.string ⟨#[10]⟩] 9)).alloc (.cells #[.int .i64 0] 3)).heap.size=w.heap.size+1+1+1:=by simp only[World.size_alloc]
 generalize((w.alloc (.cells #[.string s] 9)).alloc (.cells #[.string ⟨#[10]⟩] 9)).alloc (.cells #[.int .i64 0] 3)=W1 at EM Gz ahQ hbr kJ⊢;go_ret;exact⟨rfl,⟨by rw[ad7];exact EM,Gz,ahQ⟩,hbr,kJ⟩
end Go.Proofs.YtjaladhdnbhliaaGreatDoor
