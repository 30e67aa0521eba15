/- Parts. -/
import Derived.Test.YtjaladhdnbhliaaGreatDoorQFunc
import Derived.Test.YtjaladhdnbhliaaGreatDoorQLaw
namespace Go.Proofs.YtjaladhdnbhliaaGreatDoor
open Go.Proofs.Tryz
open Go.ChangeShapes Go.WideShapes Go.ChangeAt Go.RowKit
def Opens(N:Nat)(P:Program){α:Type}(R:CR α)(t:TypeId):Prop:=
 ∀(H:Type) (enc:TypeId×Value→H) (w:World) (fuel:Nat) (cs:List Value) (d:DataW H) (ps:List MemPlace),fuel≤N→
  DataW.trod enc P w 0 (fun _=>true) true fuel t cs=some (d,ps)→(∀x∈ps,x.block<w.heap.size)→(∀n∈d.weights P t,n≤reachBytes)→∃x,R w (old w.heap.size) cs x
def aj3:CR Int:=fun _ _ cs n=>cs= [.int .i64 n]∧I64 n
def acd:CR Bool:=fun _ _ cs b=>cs= [.bool b]
def SlR{α:Type}(R:CR α)(sz jZ:Nat):CR (List α):=fun w F cs l=>∃v,cs= [v]∧SliceOf R sz jZ w F v l
theorem GU{n:Int}(h:(Lit.int .i64 n).wf=true):I64 n:=by
 have h1:IntKind.i64.min= -9223372036854775808:=rfl;have h2:IntKind.i64.max=9223372036854775807:=rfl;simp only[Lit.wf,Bool.and_eq_true,decide_eq_true_eq]at h;unfold I64;omega
section
variable {P:Program}
theorem abB{N:Nat}{t:TypeId}(ht:P.underlying t=some .string):Opens N P aY t:=by
 intro H enc w fuel cs d ps _ h _ hw;obtain⟨s,rfl,hx,_⟩:=DataW.trod_string ht h;simp only[Prod.mk.injEq]at hx;obtain⟨rfl,rfl⟩:=hx;exact⟨s,rfl,Cm (hw _ (by simp[DataW.weights]))⟩
theorem abz{N:Nat}{t:TypeId}(ht:P.underlying t=some (.int .i64)):Opens N P aj3 t:=by
 intro H enc w fuel cs d ps _ h _ _;obtain⟨n,rfl,_,hn⟩:=DataW.trod_int ht h;exact⟨n,rfl,GU hn⟩
theorem YN{N:Nat}{t:TypeId}(ht:P.underlying t=some .bool):Opens N P acd t:=by
 intro H enc w fuel cs d ps _ h _ _;cases fuel with
 |zero=>simp[DataW.trod]at h
 |succ n=>
  unfold DataW.trod at h;rw[ht]at h;split at h<;>simp_all [acd]
theorem Vj{N:Nat}{α:Type}{R:CR α}{t:TypeId}{fs:Array Go.Field}{H:Type}{enc:TypeId×Value→H}{w:World}{fuel:Nat}{cs:List Value}{d:DataW H}{ps:List MemPlace}
  (ht:P.underlying t=some (.struct fs)) (h:DataW.trod enc P w 0 (fun _=>true) true fuel t cs=some (d,ps)) (hb:∀x∈ps,x.block<w.heap.size) (hw:∀n∈d.weights P t,n≤reachBytes) (hN:fuel≤N+1)
  (i:Nat) (f:Go.Field) (hf:fs[i]? =some f) (ft:TypeId) (o k:Nat) (h1:f.type=ft) (h2:f.offset=o) (h3:P.cellsOf ft=k) (hO:Opens N P R ft):∃x,R w (old w.heap.size) ((cs.drop o).take k) x:=by
 subst h1;subst h2;subst h3;obtain⟨xs,n,hfu,hx,_,hlen,hg⟩:=DataW.trod_struct ht h;simp only[Prod.mk.injEq]at hx;obtain⟨rfl,rfl⟩:=hx;have hi:i<fs.size:=(Array.getElem?_eq_some_iff.1 hf).1;have hxi:xs[i]? =some (xs[i]'(by omega)):=aK (by omega);have h1:=hg i f hf;rw[hxi]at h1;refine hO H enc w n _ _ _ (by omega) h1 (fun x hx=>hb x ?_) (fun m hm=>hw m ?_)
 ·exact List.mem_flatMap.2 ⟨_,List.getElem_mem _,hx⟩
 ·simp only[DataW.weights,ht];refine DataW.weights_mem_each (j:=i) (t:=f.type) (d:=(xs[i]'(by omega)).1) ?_ ?_ m hm
  ·rw[List.getElem?_map];have:fs.toList[i]? =some f:=by simpa using hf
   rw[this];rfl
  ·rw[List.getElem?_map,hxi];rfl
theorem iG{N:Nat}{α:Type}{R:CR α}{t:TypeId}{fs:Array Go.Field}{H:Type}{enc:TypeId×Value→H}{w:World}{fuel:Nat}{cs:List Value}{d:DataW H}{ps:List MemPlace}
  (ht:P.underlying t=some (.struct fs)) (h:DataW.trod enc P w 0 (fun _=>true) true fuel t cs=some (d,ps)) (hb:∀x∈ps,x.block<w.heap.size) (hw:∀n∈d.weights P t,n≤reachBytes) (hN:fuel≤N)
  (i:Nat) (f:Go.Field) (hf:fs[i]? =some f) (ft:TypeId) (o k:Nat) (h1:f.type=ft) (h2:f.offset=o) (h3:P.cellsOf ft=k) (hO:Opens N P R ft):∃x,R w (old w.heap.size) ((cs.drop o).take k) x:=
 Vj ht h hb hw (Nat.le_succ_of_le hN) i f hf ft o k h1 h2 h3 hO
theorem zh{H:Type}{e:TypeId}:∀ {ds:List (DataW H)} {d:DataW H},d∈ds→∀n∈d.weights P e,n∈DataW.weightsAll P e ds
 |d0::ds,d,hd,n,hn=>by
  simp only[DataW.weightsAll,List.mem_append];rcases List.mem_cons.1 hd with rfl|hd
  ·exact Or.inl hn
  ·exact Or.inr (zh hd n hn)
theorem ZX{α:Type}{p:Nat→α→Prop}:∀(n:Nat),(∀i,i<n→∃x,p i x)→∃l:List α,l.length=n∧∀i x,l[i]? =some x→p i x
 |0,_=>⟨[],rfl,fun i x h=>by simp at h⟩
 |n+1,h=>by
  obtain⟨l,hl,hp⟩:=ZX n (fun i hi=>h i (by omega));obtain⟨x,hx⟩:=h n (by omega);refine⟨l++ [x],by simp[hl],fun i y hy=>?_⟩
  by_cases hi:i<n
  ·rw[List.getElem?_append_left (by omega)]at hy;exact hp i y hy
  ·have hil:=(List.getElem?_eq_some_iff.1 hy).1;simp[hl]at hil;obtain rfl:i=n:=by omega
   rw[List.getElem?_append_right (by omega),hl]at hy;simp at hy;rw[←hy];exact hx
theorem vI{N:Nat}{α:Type}{R:CR α}{t e:TypeId}{sz jZ:Nat}(ht:P.underlying t=some (.slice e))(hO:Opens N P R e)(hsz:P.cellsOf e=sz)(hpos:0<sz)(hby:P.bytesOf e=jZ)(hbp:0<jZ):
  Opens N P (SlR R sz jZ) t:=by
 intro H enc w fuel cs d ps hN h hb hw;rcases DataW.trod_slice ht h with ⟨rfl,_⟩|⟨a,len,cap,elems,rest,n,hfu,rfl,hx,_,hlc,hcm,hel,hge,_,_⟩
 ·exact⟨[],_,rfl,SliceOf.nil_⟩
 ·simp only[Prod.mk.injEq]at hx;obtain⟨rfl,rfl⟩:=hx;subst hsz;subst hby;have hw0:(elems.length+rest.length)*P.bytesOf e≤reachBytes:=by
   have:=hw ((elems.length+rest.length)*P.bytesOf e) (by simp[DataW.weights,ht]);exact this
  have hlb:len*P.bytesOf e≤reachBytes:=Nat.le_trans (Nat.mul_le_mul_right _ (by omega)) hw0;have hl1:len≤len*P.bytesOf e:=Nat.le_mul_of_pos_right _ hbp;have hrb:reachBytes≤140737488355328:=by unfold reachBytes;omega
  obtain⟨l,hll,hlp⟩:=ZX (p:=fun i x=>∃cs':List Value,cs'.length=P.cellsOf e∧R w (old w.heap.size) cs' x∧∀j,j<P.cellsOf e→w.cell? (a.add (i*P.cellsOf e+j))=cs'[j]?) len (fun i hi=>by
   have h1:=hge i hi;have hxi:elems[i]? =some (elems[i]'(by omega)):=aK (by omega);rw[hxi]at h1;obtain⟨cs',hc1,hc2⟩:=Option.bind_eq_some_iff.1 h1;obtain⟨_,hcl,hat⟩:=World.cells?_some hc1;obtain⟨x,hxR⟩:=hO H enc w n cs' _ _ (by omega) hc2 (fun q hq=>hb q (by
    rw[List.mem_append];right;exact List.mem_flatMap.2 ⟨_,by rw[List.mem_append];left;exact List.getElem_mem _,hq⟩)) (fun m hm=>hw m (by
    simp only[DataW.weights,ht,List.mem_cons,List.mem_append];right;left;exact zh (d:=(elems[i]'(by omega)).1) (List.mem_map.2 ⟨_,List.getElem_mem _,rfl⟩) m hm))
   exact⟨x,cs',hcl,hxR,fun j hj=>by rw[←Go.Deep.add_add];exact hat j hj⟩)
  refine⟨l,_,rfl,some a,cap,by rw[hll],by omega,hcm,by rw[hll];omega,by omega,fun hpos'=>?_⟩;obtain⟨cs0,hc0,_,anV⟩:=hlp 0 l[0] (aK hpos');have hcell:=anV 0 hpos;rw[Nat.zero_mul,Nat.zero_add]at hcell;have ha0:a.add 0=a:=by unfold Addr.add;rfl
  rw[ha0,aK (by omega)]at hcell;have hspot:a.spot=none:=by
   unfold World.cell? at hcell;cases hs:a.spot with
   |none=>rfl
   |some k=>split at hcell<;>simp[hs]at hcell
  have hea:a=⟨a.block,a.off,none⟩:=by cases a;simp at hspot;rw[hspot]
  refine⟨a.block,a.off,by rw[←hea],World.block_lt_of_cell? w a hcell,fun i x hi=>?_⟩;obtain⟨cs',h1,h2,h3⟩:=hlp i x hi;refine⟨cs',h1,h2,fun j u hj=>?_⟩;have hjl:j<P.cellsOf e:=by rw[←h1];exact(List.getElem?_eq_some_iff.1 hj).1
  have:=h3 j hjl;rw[hea,Addr.add_lit,hj]at this;rw[←this,Nat.add_assoc]
end
theorem Tryz.mX:prog.cellsOf 9=1:=by kernel_rfl
theorem Tryz.Bd:prog.cellsOf 3=1:=by kernel_rfl
theorem Tryz.X6:prog.cellsOf 4=1:=by kernel_rfl
theorem Tryz.Jf:prog.cellsOf 23=1:=by kernel_rfl
theorem Tryz.QI:prog.bytesOf 9=16:=by kernel_rfl
theorem BA{N:Nat}:Opens N prog aY 9:=abB underlying9
theorem JB{N:Nat}:Opens N prog aj3 3:=abz underlying3
theorem afO{N:Nat}:Opens N prog acd 4:=YN underlying4
theorem YQ{N:Nat}:Opens N prog (SlR aY 1 16) 23:=vI underlying23 BA Tryz.mX (by decide) Tryz.QI (by decide)
theorem yO{H:Type}{P:Program}{ts:List TypeId}{ds:List (DataW H)}(h:(DataW.weightsEach P ts ds).all (· ≤reachBytes)=true){j:Nat}{t:TypeId}{d:DataW H}(ht:ts[j]? =some t)(hd:ds[j]? =some d):∀n∈d.weights P t,n≤reachBytes:=
 fun n hn=>by simpa using List.all_eq_true.1 h n (DataW.weights_mem_each ht hd n hn)
theorem aaO{P:Program}{α:Type}{R:CR α}{sz jZ:Nat}{t e:TypeId}{r:Reach}{base:Nat}{H:Type}{enc:TypeId×Value→H}{w:World}{v:Value}{d:DataW H}{ps:List MemPlace}(ht:P.underlying t=some (.slice e))(hO:∀N,Opens N P (SlR R sz jZ) t)
  (hval:Value.okWide P w r base t v) (h:DataW.Trod enc P w 0 (fun _=>true) true t v d ps) (hb:∀x∈ps,x.block<w.heap.size) (hw:∀n∈d.weights P t,n≤reachBytes):∃l,SliceOf R sz jZ w (old w.heap.size) v l:=by
 obtain⟨a,len,cap,rfl⟩:=okWide_slice ht hval;obtain⟨fuel,hf⟩:=h;obtain⟨l,v',hv,hl⟩:=hO fuel H enc w fuel _ d ps (aJ _) hf hb hw;have:Value.slice a len cap=v':=by
  have hv2: [Value.slice a len cap]= [v']:=hv;injection hv2
 rw[this];exact⟨l,hl⟩
theorem CX{P:Program}{α:Type}{R:CR α}{t:TypeId}{fs:Array Go.Field}{r:Reach}{base:Nat}{H:Type}{enc:TypeId×Value→H}{w:World}{v:Value}{d:DataW H}{ps:List MemPlace}(ht:P.underlying t=some (.struct fs))(hO:∀N,Opens N P R t)
  (hval:Value.okWide P w r base t v) (h:DataW.Trod enc P w 0 (fun _=>true) true t v d ps) (hb:∀x∈ps,x.block<w.heap.size) (hw:∀n∈d.weights P t,n≤reachBytes):∃cs x,v=.agg (List.toArray cs)∧R w (old w.heap.size) cs x:=by
 obtain⟨cs,rfl,_⟩:=okWide_struct ht hval;obtain⟨fuel,hf⟩:=h;obtain⟨x,hx⟩:=hO fuel H enc w fuel _ d ps (aJ _) hf hb hw;exact⟨cs.toList,x,rfl,hx⟩
theorem Tryz.Ij:prog.cellsOf 100=2:=by kernel_rfl
theorem Tryz.Uf:prog.bytesOf 100=32:=by kernel_rfl
theorem Vl{N:Nat}:Opens N prog aW 100:=by
 intro H enc w fuel cs d ps hN h hb hw;obtain⟨xs,n,_,_,hl,_,_⟩:=DataW.trod_struct underlying100 h;rw[Tryz.Ij]at hl;obtain⟨c0,c1,rfl⟩:=xE hl;obtain⟨x0,e0,z0⟩:=iG underlying100 h hb hw hN 0 _ rfl 9 0 1 rfl rfl Tryz.mX BA;obtain⟨x1,e1,z1⟩:=iG underlying100 h hb hw hN 1 _ rfl 9 1 1 rfl rfl Tryz.mX BA;obtain rfl:c0=.string x0:=by injection e0
 obtain rfl:c1=.string x1:=by injection e1
 exact⟨⟨x0,x1⟩,rfl,z0,z1⟩
theorem Tryz.Kt:prog.cellsOf 39=1:=by kernel_rfl
theorem RS{N:Nat}:Opens N prog (SlR aW 2 32) 39:=vI underlying39 Vl Tryz.Ij (by decide) Tryz.Uf (by decide)
theorem Tryz.OU:prog.cellsOf 62=3:=by kernel_rfl
theorem Tryz.aaQ:prog.bytesOf 62=56:=by kernel_rfl
theorem abA{N:Nat}:Opens N prog fB 62:=by
 intro H enc w fuel cs d ps hN h hb hw;obtain⟨xs,n,_,_,hl,_,_⟩:=DataW.trod_struct underlying62 h;rw[Tryz.OU]at hl;obtain⟨c0,c1,c2,rfl⟩:=AU hl;obtain⟨x0,e0,z0⟩:=iG underlying62 h hb hw hN 0 _ rfl 9 0 1 rfl rfl Tryz.mX BA;obtain⟨x1,v1,e1,z1⟩:=iG underlying62 h hb hw hN 1 _ rfl 23 1 1 rfl rfl Tryz.Jf YQ;obtain⟨x2,e2,z2⟩:=iG underlying62 h hb hw hN 2 _ rfl 9 2 1 rfl rfl Tryz.mX BA;obtain rfl:c0=.string x0:=by injection e0
 obtain rfl:c1=v1:=by injection e1
 obtain rfl:c2=.string x2:=by injection e2
 exact⟨⟨x0,x1,x2⟩,_,rfl,z0,z2,z1⟩
theorem Tryz.QJ:prog.cellsOf 40=1:=by kernel_rfl
theorem YP{N:Nat}:Opens N prog (SlR fB 3 56) 40:=vI underlying40 abA Tryz.OU (by decide) Tryz.aaQ (by decide)
theorem Tryz.Kr:prog.cellsOf 42=2:=by kernel_rfl
theorem YO{N:Nat}:Opens N prog bD 42:=by
 intro H enc w fuel cs d ps hN h hb hw;obtain⟨xs,n,_,_,hl,_,_⟩:=DataW.trod_struct underlying42 h;rw[Tryz.Kr]at hl;obtain⟨c0,c1,rfl⟩:=xE hl;obtain⟨x0,v0,e0,z0⟩:=iG underlying42 h hb hw hN 0 _ rfl 39 0 1 rfl rfl Tryz.Kt RS;obtain⟨x1,v1,e1,z1⟩:=iG underlying42 h hb hw hN 1 _ rfl 40 1 1 rfl rfl Tryz.QJ YP;obtain rfl:c0=v0:=by injection e0
 obtain rfl:c1=v1:=by injection e1
 exact⟨⟨x0,x1⟩,_,_,rfl,z0,z1⟩
theorem Tryz.ED:prog.cellsOf 68=4:=by kernel_rfl
theorem Tryz.QH:prog.bytesOf 68=72:=by kernel_rfl
theorem RP{N:Nat}:Opens N prog aU 68:=by
 intro H enc w fuel cs d ps hN h hb hw;obtain⟨xs,n,_,_,hl,_,_⟩:=DataW.trod_struct underlying68 h;rw[Tryz.ED]at hl;obtain⟨c0,c1,c2,c3,rfl⟩:=xU hl;obtain⟨x0,e0,z0⟩:=iG underlying68 h hb hw hN 0 _ rfl 9 0 1 rfl rfl Tryz.mX BA;obtain⟨x1,e1⟩:=iG underlying68 h hb hw hN 1 _ rfl 4 1 1 rfl rfl Tryz.X6 afO;obtain⟨x2,z2⟩:=iG underlying68 h hb hw hN 2 _ rfl 42 2 2 rfl rfl Tryz.Kr YO;obtain rfl:c0=.string x0:=by injection e0
 obtain rfl:c1=.bool x1:=by injection e1
 exact⟨⟨x0,x1,x2⟩,_,_,rfl,z0,z2⟩
theorem Ob{N:Nat}:Opens N prog (SlR aU 4 72) 38:=vI underlying38 RP Tryz.ED (by decide) Tryz.QH (by decide)
end Go.Proofs.YtjaladhdnbhliaaGreatDoor
