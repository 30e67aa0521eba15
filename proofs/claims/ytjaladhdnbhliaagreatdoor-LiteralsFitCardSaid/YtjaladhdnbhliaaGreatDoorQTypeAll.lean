/- Parts. -/
import Derived.Test.YtjaladhdnbhliaaGreatDoorQUsesG
import Derived.Shelf.SlSortCmp.NoneTotal
set_option maxHeartbeats 1000000
namespace Go.Proofs.YtjaladhdnbhliaaGreatDoor
open Go.RowKit
def mF(nm:ByteArray):Ty:=.mk 4 ⟨#[]⟩ nm []
def jY(m:Module)(l:List Import)(k:Nat):Int:=match m.types[k]? with
 |some f=>if(m.types.take k).any (bU f.name)=true then 4 else(dA m l ⟨#[]⟩ (mF f.name)).2
 |none=>0
def qI(m:Module)(l:List Import)(k:Nat):List Known:=match m.types[k]? with
 |some f=>if jY m l k=0 then[⟨f.name,(dA m l ⟨#[]⟩ (mF f.name)).1⟩]else[]
 |none=> []
def AV(m:Module)(l:List Import)(k:Nat):List og:=match m.types[k]? with
 |some f=>if jY m l k=0 then[]else[⟨f.name,jY m l k⟩]
 |none=> []
def jA(m:Module)(l:List Import)(n:Nat):List Known:=(List.range n).flatMap (qI m l)
def o7(m:Module)(l:List Import)(n:Nat):List og:=(List.range n).flatMap (AV m l)
def typesOf(m:Module)(l:List Import):List Known:=jf Known.name (jA m l m.types.length)
def pU(m:Module)(l:List Import):List og:=o7 m l m.types.length
section
variable {m:Module} {l:List Import} {k n:Nat} {f:Field}
theorem iW{α:Type}(g:Nat→List α)(n:Nat):(List.range (n+1)).flatMap g=(List.range n).flatMap g++g n:=by
 rw[List.range_succ,List.flatMap_append];simp
theorem xA{α:Type}(g:Nat→List α)(h:∀i,(g i).length≤1):∀n,((List.range n).flatMap g).length≤n
 |0=>by simp
 |n+1=>by
  rw[iW,List.length_append];have:=xA g h n;have:=h n;omega
theorem SQ(k:Nat):(qI m l k).length≤1:=by
 unfold qI;split
 ·split<;>simp
 ·simp
theorem VU(k:Nat):(AV m l k).length≤1:=by
 unfold AV;split
 ·split<;>simp
 ·simp
theorem wZ(n:Nat):(jA m l n).length≤n:=xA _ SQ n
theorem zL(n:Nat):(o7 m l n).length≤n:=xA _ VU n
theorem qQ(hf:m.types[k]? =some f)(h:(m.types.take k).any (bU f.name)=true):jY m l k=4:=by
 unfold jY;rw[hf];simp only;rw[if_pos h]
theorem yN(hf:m.types[k]? =some f)(h:(m.types.take k).any (bU f.name)=false):jY m l k=(dA m l ⟨#[]⟩ (mF f.name)).2:=by
 unfold jY;rw[hf];simp only;rw[if_neg (by simp[h])]
theorem Df(hf:m.types[k]? =some f)(h:jY m l k≠0):jA m l (k+1)=jA m l k:=by
 unfold jA;rw[iW];unfold qI;rw[hf];simp[h]
theorem OM(hf:m.types[k]? =some f)(h:jY m l k≠0):o7 m l (k+1)=o7 m l k++ [⟨f.name,jY m l k⟩]:=by
 unfold o7;rw[iW];unfold AV;rw[hf];simp[h]
theorem zY(hf:m.types[k]? =some f)(h:jY m l k=0):jA m l (k+1)=jA m l k++ [⟨f.name,(dA m l ⟨#[]⟩ (mF f.name)).1⟩]:=by
 unfold jA;rw[iW];unfold qI;rw[hf];simp[h]
theorem J8(hf:m.types[k]? =some f)(h:jY m l k=0):o7 m l (k+1)=o7 m l k:=by
 unfold o7;rw[iW];unfold AV;rw[hf];simp[h]
theorem Pq(n:Nat):∀x∈jA m l n,∃i f,i<n∧m.types[i]? =some f∧jY m l i=0∧x=⟨f.name,(dA m l ⟨#[]⟩ (mF f.name)).1⟩:=by
 intro x hx;unfold jA at hx;obtain⟨i,hi,hx⟩:=List.mem_flatMap.1 hx;refine⟨i,?_⟩;unfold qI at hx;split at hx
 ·next f hf=>
  split at hx
  ·next h0=>exact⟨f,List.mem_range.1 hi,hf,h0,by simpa using hx⟩
  ·simp at hx
 ·simp at hx
theorem xW:∀n,zB Known.name (jA m l n)
 |0=>List.Pairwise.nil
 |n+1=>by
  have ih:=xW n;cases hf:m.types[n]? with
  |none=>
   have:jA m l (n+1)=jA m l n:=by unfold jA;rw[iW];unfold qI;rw[hf];simp
   rw[this];exact ih
  |some f=>
   by_cases h0:jY m l n=0
   ·rw[zY hf h0];refine List.pairwise_append.2 ⟨ih,by simp,fun x hx y hy=>?_⟩;obtain⟨i,g,hi,hg,_,rfl⟩:=Pq n x hx;obtain rfl:y=_:=by simpa using hy
    intro he;simp only at he;have hs:(m.types.take n).any (bU f.name)=true:=by
     rw[List.any_eq_true];refine⟨g,?_,?_⟩
     ·exact List.mem_of_getElem? (i:=i) (by rw[List.getElem?_take_of_lt hi];exact hg)
     ·unfold bU iT;simp[he]
    rw[qQ hf hs]at h0;cases h0
   ·rw[Df hf h0];exact ih
theorem aff(hf:m.types[k]? =some f):decide (fidx (bU f.name) m.types<(k:Int))=(m.types.take k).any (bU f.name):=by
 have hself:bU f.name f=true:=by unfold bU iT;simp
 have hk:=(List.getElem?_eq_some_iff.1 hf).1;unfold fidx;cases hi:m.types.findIdx? (bU f.name)with
 |none=>
  rw[List.findIdx?_eq_none_iff]at hi;have:=hi f (List.mem_of_getElem? hf);rw[hself]at this;cases this
 |some i=>
  obtain⟨h1,h2,h3⟩:=List.findIdx?_eq_some_iff_getElem.1 hi;rw[Bool.eq_iff_iff];simp only[decide_eq_true_eq,List.any_eq_true];constructor
  ·intro h;refine⟨m.types[i],List.mem_of_getElem? (i:=i) ?_,h2⟩;rw[List.getElem?_take_of_lt (by omega)];exact aK h1
  ·rintro⟨g,hg,hp⟩;obtain⟨j,hj,rfl⟩:=List.getElem_of_mem hg;rw[List.length_take]at hj;rw[List.getElem_take]at hp;refine Classical.byContradiction fun hn=>?_
   exact h3 j (by omega) hp
theorem yK:∀(n:Nat) (v:ByteArray) (us:List ByteArray) (t:Ty),0≤(bW m l n v us t).2∧(bW m l n v us t).2≤5
 |0,_,_,_=>⟨by unfold bW;decide,by unfold bW;decide⟩
 |n+1,v,us,.mk k o nm args=>by
  unfold bW
  repeat' split
  all_goals first|(dsimp only;exact yK n _ _ _)|exact yK n _ _ _|(constructor<;>(dsimp only;omega))
theorem tJ(v:ByteArray)(t:Ty):I64 (dA m l v t).2:=by
 have:=yK (m:=m) (l:=l) 300 v [] t;unfold dA I64;omega
theorem Aw(h:aX f.name=true):dn 10 (mF f.name)=0:=by
 unfold mF dn;rw[if_neg (by decide),if_neg (by decide),if_neg (by simp),if_pos rfl,if_pos ⟨h,.inl rfl⟩]
theorem CG(hs:xM l)(nm:ByteArray):(dA m l ⟨#[]⟩ (mF nm)).1.size≤600:=oU hs 300 _ _ _
end
open Go.Shelf Go.Sort
theorem YI{a b c:ByteArray}(h:nT a b=false)(k:nT b c=false):nT a c=false:=by
 have h1:¬a.data.toList<b.data.toList:=fun e=>by rw[(sS a b).2 e]at h;cases h
 have h2:¬b.data.toList<c.data.toList:=fun e=>by rw[(sS b c).2 e]at k;cases k
 rw[Bool.eq_false_iff];intro e;exact List.not_lt.2 (List.le_trans (List.not_lt.1 h2) (List.not_lt.1 h1)) ((sS a c).1 e)
def ZE{β:Type}(nm:β→ByteArray)(x y:β):Int:=Lib.compareBytes (nm x).data.toList (nm y).data.toList
theorem yA{β:Type}(nm:β→ByteArray)(x y:β):ltOf (ZE nm) x y=nT (nm x) (nm y):=Kv _ _
theorem abS{β:Type}(nm:β→ByteArray):SWO (ltOf (ZE nm)) where
 irrefl x:=by rw[yA];exact DC _
 trans x y z h1 h2:=by rw[yA]at *;exact tY h1 h2
 ntrans x y z h1 h2:=by rw[yA]at *;exact YI h1 h2
theorem Po{β:Type}[Inhabited β](enc:β→List Value)(sz:Nat)(d:Array β)(henc:∀x,(enc x).length=sz){i j:Nat}(hi:i<d.size)(hj:j<sz):(flatK enc sz d)[i*sz+j]? =(enc d[i]!)[j]? :=by
 have hlt:i*sz+j<d.size*sz:=by
  have:=Nat.mul_le_mul_right sz (show i+1≤d.size from hi);rw[Nat.add_mul,Nat.one_mul]at this;omega
 have e1:(i*sz+j) / sz=i:=(blk_iff sz i _ (by omega)).1 ⟨by omega,by omega⟩;have e2:(i*sz+j)%sz=j:=by rw[Nat.mod_eq_sub_div_mul,e1];omega
 have hs:i*sz+j<(flatK enc sz d).size:=by rw[size_flatK];exact hlt
 rw[Array.getElem?_eq_getElem hs,←getElem!_pos (flatK enc sz d) _ hs,get_flatK _ _ _ _ hlt,e1,e2];have hj':j<(enc d[i]!).length:=by rw[henc];exact hj
 rw[aK hj',getElem!_pos (enc d[i]!) _ hj']
section
variable {α:Type} {R:CR α} {P:Program} {ρ:Ren}
theorem Na(hR:eH R)(nm:α→ByteArray)(good:List Value→ByteArray→Prop)(sz:Nat)(hg:∀cs s,good cs s→cs.length=sz∧∀v∈cs,v.oneCell'=true)(hRg:∀w F cs x,R w F cs x→good cs (nm x))
  (L:SlLaysF0.n6 P ρ) (aE:∀w,(isAgg (ρ.t 24)).run P w=.ok true w) (zE:∀w,(Go.sizeOf (ρ.t 24)).run P w=.ok sz w) (g:Nat) (eg:∀args w,(callFunc g args).run P w=.ok (.enter g args) w)
  (hcl:∀cs ds s t W,good cs s→good ds t→Calls P g #[.agg cs.toArray,.agg ds.toArray] W fun e w'=>e=.returned (.int .i64 (Lib.compareBytes s.data.toList t.data.toList))∧∃q os,w'=grow (W.drewN q) os)
  {base:Nat} {e:TypeId} {F:aV} {w:World} {v:Value} {l:List α} (h:aZ R sz e base w F v l) (hsz:l.length<4611686018427387904):
  Calls P (ρ.f 6) #[v,.func (.func g) #[] #[]] w fun en w'=>en=.returned (.tuple #[])∧∃l':List α,l'.Perm l∧(l'.Pairwise fun a b=>nT (nm b) (nm a)=false)∧aZ R sz e base w' F v l'∧Grew base w w' v.ownBlock:=by
 obtain⟨xs,hrow,hrows,hf⟩:=h;have hempty:l= []→∀p cap,v=.slice p 0 cap→Calls P (ρ.f 6) #[v,.func (.func g) #[] #[]] w fun en w'=>en=.returned (.tuple #[])∧∃l':List α,l'.Perm l∧(l'.Pairwise fun a b=>nT (nm b) (nm a)=false)∧aZ R sz e base w' F v l'∧Grew base w w' v.ownBlock:=by
  rintro rfl p cap rfl;refine(AnyF.slices_SortFunc_none L p cap _ w).mono ?_;rintro en w' ⟨he,rfl⟩;exact⟨he,[],List.Perm.refl _,List.Pairwise.nil,⟨xs,hrow,hrows,hf⟩,⟨rfl,rfl,rfl,aJ _,fun _ _ _=>rfl,fun k hk=>by
   rcases hrow.2 with ⟨hv,_⟩|⟨g',cap',cur,hv,hb,_⟩
   ·rw[hv]at hk;cases hk
   ·rw[hv]at hk;have hk2:some g'=some k:=hk;injection hk2 with hk2;omega⟩⟩
 obtain⟨hxl,hrow'⟩:=hrow;rcases hrow' with ⟨hv,h0⟩|⟨g',cap,cur,rfl,hb,hcell,hc1,hc2,hcs,htake⟩
 ·exact hempty (List.length_eq_zero_iff.1 h0) none 0 hv
 by_cases hl:l= []
 ·subst hl;exact hempty rfl _ cap rfl
 have akX:0<l.length:=List.length_pos_iff.2 hl;have hex:∀i:Fin l.length,∃b: {p:α×List Value // R w F p.2 p.1},b.1.1=l[i]∧b.1.2.length=sz∧∀j u,b.1.2[j]? =some u→xs[i.1*sz+j]? =some u:=fun i=>by
  obtain⟨cs,k1,k2,k3⟩:=hrows.2 i.1 l[i] (aK i.2);exact⟨⟨(l[i],cs),k2⟩,rfl,k1,k3⟩
 obtain⟨fb,hfb⟩:=Classical.axiomOfChoice hex;have:Inhabited {p:α×List Value // R w F p.2 p.1} :=⟨fb ⟨0,akX⟩⟩;obtain⟨d,hd⟩:∃d:Array {p:α×List Value // R w F p.2 p.1},d=Array.ofFn fb:=⟨_,rfl⟩;have hds:d.size=l.length:=by rw[hd];simp
 have hdi:∀i,(hi:i<l.length)→d[i]! =fb ⟨i,hi⟩:=fun i hi=>by
  have hi':i<d.size:=by rw[hds];exact hi
  rw[getElem!_pos d i hi'];simp[hd]
 have hdl:d.toList.map (fun b=>b.1.1)=l:=by
  refine List.ext_getElem (by simp[hds]) fun i h1 h2=>?_
  have h3:=hdi i h2;rw[getElem!_pos d i (by rw[hds];exact h2)]at h3;rw[List.getElem_map,Array.getElem_toList,h3];exact(hfb ⟨i,h2⟩).1
 let enc: {p:α×List Value // R w F p.2 p.1} →List Value:=fun b=>b.1.2
 let nb: {p:α×List Value // R w F p.2 p.1} →ByteArray:=fun b=>nm b.1.1
 have hk:∀b,(enc b).length=sz:=fun b=>(hg _ _ (hRg _ _ _ _ b.2)).1
 have h1:∀b,∀u∈enc b,u.oneCell'=true:=fun b=>(hg _ _ (hRg _ _ _ _ b.2)).2
 have akP:(flatK enc sz d).toList=xs:=by
  refine List.ext_getElem? fun t=>?_
  by_cases ht:t<d.size*sz
  ·have hsz0:0<sz:=Nat.pos_of_ne_zero (by rintro rfl;simp at ht);have hi:t / sz<l.length:=by rw[←hds];exact Nat.div_lt_of_lt_mul (by rw[Nat.mul_comm];exact ht)
   have hr:t%sz<sz:=Nat.mod_lt _ hsz0;have hsum:t / sz*sz+t%sz=t:=by rw[Nat.mul_comm];exact Nat.div_add_mod t sz
   rw[←hsum,Array.getElem?_toList,Po enc sz d hk (by rw[hds];exact hi) hr];have hj:t%sz<(enc d[t / sz]!).length:=by rw[hk];exact hr
   rw[aK hj];have:=(hfb ⟨t / sz,hi⟩).2.2 (t%sz) (enc d[t / sz]!)[t%sz] (by rw[←hdi _ hi];exact aK hj);exact this.symm
  ·rw[List.getElem?_eq_none (by simp;omega),List.getElem?_eq_none (by rw[hxl,←hds];omega)]
 have hcur:∀t,t<l.length*sz→cur[t]? =(flatK enc sz d)[t]? :=fun t ht=>by
  have h2:xs[t]? =cur.toList[t]? :=by rw[←htake,List.getElem?_take_of_lt ht]
  rw[←akP]at h2;simpa using h2.symm
 have hgl:g'<w.heap.size:=(Array.getElem?_eq_some_iff.1 hcell).1;have hH:HoldsK enc sz w g' 0 d:=fun t ht=>by
  have ht':t<l.length*sz:=by rw[size_flatK,hds]at ht;exact ht
  refine⟨?_,by simp[World.frozen?,hcell]⟩;simp only[World.cell?,hcell,Nat.zero_add];rw[if_neg (by simp),hcur t ht',Array.getElem?_eq_getElem ht,id,getElem!_pos (flatK enc sz d) _ ht]
 have hcmp:CmpLays P g #[] enc sz (ZE nb) g' 0 d.size w:=fun m os dk _ x y=>hcl _ _ _ _ _ (hRg _ _ _ _ x.2) (hRg _ _ _ _ y.2)
 have hcon:=AnyQ.slices_SortFunc L sz aE zE enc hk h1 (ZE nb) (abS nb) g #[] g' 0 cap d w eg hcmp hH hgl (by rw[hds];exact hsz);rw[hds]at hcon;refine hcon.mono ?_;rintro en w' ⟨he,d',n,os,hp,hs,rfl⟩;refine⟨he,d'.toList.map (fun b=>b.1.1),?_,?_,?_,?_⟩
 ·obtain⟨hsz',_,hperm⟩:=hp;have e1:d'.extract 0 l.length=d':=by rw[←hds,←hsz'];exact Array.extract_size
  have e2:d.extract 0 l.length=d:=by rw[←hds];exact Array.extract_size
  rw[e1,e2]at hperm;have:=hperm.map (fun b=>b.1.1);rw[hdl]at this;exact this
 ·rw[List.pairwise_map,List.pairwise_iff_getElem];intro i j hi hj hij;have hi':i<d'.size:=by simpa using hi
  have hj':j<d'.size:=by simpa using hj
  have h2:=hs i j (Nat.zero_le _) hij (by rw[←hds,←hp.1];exact hj');rw[getElem!_pos d' j hj',getElem!_pos d' i hi',yA]at h2;simpa using h2
 ·have hsz':d'.size=l.length:=by rw[hp.1,hds]
  have hblk:(sortWorldK enc sz w g' 0 n d' os).heap[g']? =some (.cells (putCells id 0 (flatK enc sz d') cur) e (0,0)):=by
   unfold sortWorldK;rw[heap_grow_old _ _ (by rw[size_putRowK];exact hgl)];simp only[putRowK,putRow,mapBlock,Array.getElem?_modify,if_true]
   show Option.map _ w.heap[g']? =_
   rw[hcell]
   rfl
  have hkeep:∀k,F k→(sortWorldK enc sz w g' 0 n d' os).heap[k]? =w.heap[k]? :=fun k hk=>by
   have hne:g'≠k:=fun e=>(hf k hk).2 (by rw[←e];rfl)
   unfold sortWorldK;rw[heap_grow_old _ _ (by rw[size_putRowK];exact(hf k hk).1)];simp only[putRowK,putRow,mapBlock,Array.getElem?_modify,if_neg hne]
   rfl
  refine⟨(flatK enc sz d').toList,⟨by simp[hsz'],.inr ⟨g',cap,putCells id 0 (flatK enc sz d') cur,by simp[hsz'],hb,hblk,by simp[hsz',hc1],hc2,by simp[putCells,hcs],?_⟩⟩,⟨by simp,fun i x hx=>?_⟩,fun k hk=>⟨Nat.lt_of_lt_of_le (hf k hk).1 ?_,(hf k hk).2⟩⟩
  ·refine List.ext_getElem? fun t=>?_
   have hcap:l.length*sz≤cur.size:=by rw[hcs];exact Nat.mul_le_mul_right _ hc1
   have hfs:(flatK enc sz d').size=l.length*sz:=by rw[size_flatK,hsz']
   simp only[List.length_map,Array.length_toList,hsz'];rw[List.getElem?_take];split
   ·next ht=>
    have ht2:t<cur.size:=by omega
    simp only[putCells,Array.getElem?_toList,Array.getElem?_mapIdx,Array.getElem?_eq_getElem ht2,Option.map_some,Nat.zero_add,hfs,Nat.zero_le,true_and,ht,if_true,Nat.sub_zero,id];rw[Array.getElem?_eq_getElem (by rw[hfs];exact ht),getElem!_pos (flatK enc sz d') _ (by rw[hfs];exact ht)]
   ·next ht=>rw[List.getElem?_eq_none (by simp[hsz'];omega)]
  ·rw[List.getElem?_map]at hx;obtain⟨b,hbx,rfl⟩:=Option.map_eq_some_iff.1 hx;rw[Array.getElem?_toList]at hbx;obtain⟨hi,hbi⟩:=Array.getElem?_eq_some_iff.1 hbx;refine⟨b.1.2,hk b,hR _ _ _ _ _ _ b.2 (fun _ h=>h) (dY hkeep),fun j u hj=>?_⟩;have hj':j<sz:=by have:=(List.getElem?_eq_some_iff.1 hj).1;rw[←hk b];exact this
   rw[Array.getElem?_toList,Po enc sz d' hk hi hj',getElem!_pos d' i hi,hbi];exact hj
  ·unfold sortWorldK;rw[size_grow,size_putRowK];exact Nat.le_add_right _ _
 ·refine⟨rfl,rfl,rfl,size_sortWorldK_c enc sz w g' 0 n d' os,fun k hk hne=>?_,fun k hk=>by have hk2:some g'=some k:=hk;injection hk2 with hk2;omega⟩;have hne':g'≠k:=fun e=>hne (by rw[←e];rfl)
  unfold sortWorldK;rw[heap_grow_old _ _ (by rw[size_putRowK];exact hk)];simp only[putRowK,putRow,mapBlock,Array.getElem?_modify,if_neg hne']
  rfl
end
def vK(m:Module)(l:List Import)(k:Nat):List kR:=match m.funcs[k]? with
 |some _=>if(dJ m l k).2=0 then[(dJ m l k).1]else[]
 |none=> []
def FT(m:Module)(l:List Import)(k:Nat):List og:=match m.funcs[k]? with
 |some f=>if(dJ m l k).2=0 then[]else[⟨f.name,(dJ m l k).2⟩]
 |none=> []
def iY(m:Module)(l:List Import)(n:Nat):List kR:=(List.range n).flatMap (vK m l)
def je(m:Module)(l:List Import)(n:Nat):List og:=(List.range n).flatMap (FT m l)
def lY(m:Module)(l:List Import):gU:=⟨typesOf m l,jf kR.name (iY m l m.funcs.length)⟩
def ZK(m:Module)(l:List Import):List og:=je m l m.funcs.length
section
variable {m:Module} {l:List Import} {k n:Nat} {f:Func}
theorem Zb(k:Nat):(vK m l k).length≤1:=by
 unfold vK;split
 ·split<;>simp
 ·simp
theorem Y9(k:Nat):(FT m l k).length≤1:=by
 unfold FT;split
 ·split<;>simp
 ·simp
theorem xB(n:Nat):(iY m l n).length≤n:=xA _ Zb n
theorem vJ(n:Nat):(je m l n).length≤n:=xA _ Y9 n
theorem D5(hf:m.funcs[k]? =some f)(h:(dJ m l k).2≠0):iY m l (k+1)=iY m l k:=by
 unfold iY;rw[iW];unfold vK;rw[hf];simp[h]
theorem FQ(hf:m.funcs[k]? =some f)(h:(dJ m l k).2≠0):je m l (k+1)=je m l k++ [⟨f.name,(dJ m l k).2⟩]:=by
 unfold je;rw[iW];unfold FT;rw[hf];simp[h]
theorem AQ(hf:m.funcs[k]? =some f)(h:(dJ m l k).2=0):iY m l (k+1)=iY m l k++ [(dJ m l k).1]:=by
 unfold iY;rw[iW];unfold vK;rw[hf];simp[h]
theorem Cj(hf:m.funcs[k]? =some f)(h:(dJ m l k).2=0):je m l (k+1)=je m l k:=by
 unfold je;rw[iW];unfold FT;rw[hf];simp[h]
theorem IU(hf:m.funcs[k]? =some f)(h:(dJ m l k).2=0):(dJ m l k).1.name=f.name∧(m.funcs.take k).any (vY f.name)=false:=by
 unfold dJ at h⊢;rw[hf]at h⊢;simp only at h⊢
 by_cases h1:(m.funcs.take k).any (vY f.name)=true
 ·rw[if_pos h1]at h;cases h
 ·rw[if_neg h1]at h⊢
  by_cases h2:gV (nR m l f) f.params.length≠0
  ·rw[if_pos h2]at h;exact absurd h h2
  ·rw[if_neg h2]at h⊢
   by_cases h3:(dA m l f.dH f.result).2≠0
   ·rw[if_pos h3]at h;exact absurd h h3
   ·rw[if_neg h3]at h⊢;exact⟨rfl,by simpa using h1⟩
theorem abP(n:Nat):∀x∈iY m l n,∃i f,i<n∧m.funcs[i]? =some f∧x.name=f.name:=by
 intro x hx;unfold iY at hx;obtain⟨i,hi,hx⟩:=List.mem_flatMap.1 hx;refine⟨i,?_⟩;unfold vK at hx;split at hx
 ·next f hf=>
  split at hx
  ·next h0=>
   obtain rfl:x=_:=by simpa using hx
   exact⟨f,List.mem_range.1 hi,hf,(IU hf h0).1⟩
  ·simp at hx
 ·simp at hx
theorem yI:∀n,zB kR.name (iY m l n)
 |0=>List.Pairwise.nil
 |n+1=>by
  have ih:=yI n;cases hf:m.funcs[n]? with
  |none=>
   have:iY m l (n+1)=iY m l n:=by unfold iY;rw[iW];unfold vK;rw[hf];simp
   rw[this];exact ih
  |some f=>
   by_cases h0:(dJ m l n).2=0
   ·rw[AQ hf h0];obtain⟨hn,hs⟩:=IU hf h0;refine List.pairwise_append.2 ⟨ih,by simp,fun x hx y hy=>?_⟩;obtain⟨i,g,hi,hg,hxn⟩:=abP n x hx;obtain rfl:y=_:=by simpa using hy
    intro he;rw[hxn,hn]at he;have:(m.funcs.take n).any (vY f.name)=true:=by
     rw[List.any_eq_true];refine⟨g,?_,?_⟩
     ·exact List.mem_of_getElem? (i:=i) (by rw[List.getElem?_take_of_lt hi];exact hg)
     ·unfold vY iT;simp[he]
    rw[hs]at this;cases this
   ·rw[D5 hf h0];exact ih
theorem zU{P:Int→Prop}(h0:P 0){g:Nat→Int}(h:∀i,P (g i))(n:Nat):P (gV g n):=by
 by_cases hz:gV g n=0
 ·rw[hz];exact h0
 ·refine Classical.byContradiction fun hn=>?_
  have:∀i,i<n→g i=0∨g i≠0:=fun i _=>Classical.em _
  clear this
  by_cases hall:∀i,i<n→g i=0
  ·exact hz (fK hall)
  ·have hex:∃j,j<n∧g j≠0∧∀i,i<j→g i=0:=by
    refine Classical.byContradiction fun hne=>hall fun i hi=>?_
    induction i using Nat.strongRecOn with
    |ind i ih=>
     refine Classical.byContradiction fun hgi=>hne ⟨i,hi,hgi,fun j hj=>ih j hj (by omega)⟩
   obtain⟨j,hj,hgj,hb⟩:=hex;rw[mZ hj hb hgj]at hn;exact hn (h j)
theorem MI(k:Nat):I64 (dJ m l k).2:=by
 have h4:I64 4:=⟨by decide,by decide⟩;have h0:I64 0:=⟨by decide,by decide⟩;unfold dJ;split
 ·next f hf=>
  split
  ·exact h4
  ·split
   ·refine zU h0 (fun i=>?_) _;unfold nR;split
    ·split
     ·exact h4
     ·exact tJ _ _
    ·exact h0
   ·split
    ·exact tJ _ _
    ·exact h0
 ·exact h0
end
theorem BD{a b:ByteArray}{A:Option Addr}{n c:Nat}:∀u∈[Value.string a,.slice A n c,.string b],u.oneCell'=true:=by
 intro u hu;simp only[List.mem_cons,List.not_mem_nil,or_false]at hu;rcases hu with rfl|rfl|rfl<;>rfl
theorem fB.form{w:World}{F:aV}{cs:List Value}{x:kR}(h:fB w F cs x):∃A c,cs= [.string x.name,.slice A x.params.length c,.string x.result]∧okS x.name∧okS x.result∧SliceOf aY 1 16 w F (.slice A x.params.length c) x.params:=by
 obtain⟨pv,rfl,h1,h2,h3⟩:=h;obtain⟨A,c,rfl,_⟩:=h3.form;exact⟨A,c,rfl,h1,h2,h3⟩
structure Facing(w W:World)(B:Nat)(mc:Array Value)(E:List Known)(tv:Value)(G:aV)(s b:Value)(sl:List kR)(bl:List og):Prop where
 below:Below w.heap.size w W
 bm:Box W w.heap.size 27 mc
 br:Box W (w.heap.size+1) 42 #[.slice none 0 0,.slice none 0 0]
 bo:Box W (w.heap.size+1+1) 42 #[tv,s]
 ts:SliceOf aW 2 32 W (fresh (w.heap.size+3) B) tv E
 own:aZ fB 3 62 B W G s sl
 bad:aZ bn 2 53 B W none_ b bl
 low:∀k,G k→B≤k
 ap:Apart s b
 apG:∀k,G k→some k≠b.ownBlock
 lo:w.heap.size+3≤B
 hi:B≤W.heap.size
section
variable {w W W':World} {B:Nat} {mc:Array Value} {E:List Known} {tv s b s' b':Value} {G G':aV} {sl sl':List kR} {bl bl':List og}
theorem Facing.later(h:Facing w W B mc E tv G s b sl bl)(hb:Below W.heap.size W W'):Facing w W' B mc E tv G s b sl bl:=
 ⟨h.below.trans (hb.mono h.below.size),h.bm.later hb h.bm.lt,h.br.later hb h.br.lt,h.bo.later hb h.bo.lt,h.ts.up aW.stays (fun k hk=>by have:=hk.2;have:=h.hi;omega) hb,
  h.own.below fB.stays hb,h.bad.below bn.stays hb,h.low,h.ap,h.apG,h.lo,Nat.le_trans h.hi hb.size⟩
theorem Facing.grew(h:Facing w W B mc E tv G s b sl bl){row:Option Nat}(hg:Grew B W W' row):Below w.heap.size w W'∧Box W' w.heap.size 27 mc∧Box W' (w.heap.size+1) 42 #[.slice none 0 0,.slice none 0 0]∧Box W' (w.heap.size+1+1) 42 #[tv,s]∧SliceOf aW 2 32 W' (fresh (w.heap.size+3) B) tv E∧B≤W'.heap.size:=by
 have hlo:=h.lo;have hhi:=h.hi;have hb:Below B W W':=hg.below (aJ _) hhi;exact⟨h.below.trans (hb.mono (by omega)),h.bm.later hb (by omega),h.br.later hb (by omega),h.bo.later hb (by omega),h.ts.stays aW.stays (fun _ h=>h) (Keeps.of_below hb fun k hk=>hk.2),Nat.le_trans hhi hg.size⟩
theorem Facing.aah(h:Facing w W B mc E tv G s b sl bl)(hO:aZ bn 2 53 B W' (fun k=>none_ k∨none_ k) b' bl')(hg:Grew B W W' b.ownBlock)(hl:b'.ownBlock=b.ownBlock∨∃g,b'.ownBlock=some g∧W.heap.size≤g):Facing w W' B mc E tv G s b' sl bl':=by
 obtain⟨h1,h2,h3,h4,h5,h6⟩:=h.grew hg;refine⟨h1,h2,h3,h4,h5,h.own.kept fB.stays hg.size fun k hk hor=>hg.block k hk ?_,aZ.wider bn.stays hO (fun k hk=>hk.elim id id) (fun k hk=>hk.elim),h.low,(h.ap.symm.push hl fun g hg=>(h.own.row hg).2).symm,fun k hk=>?_,h.lo,h6⟩
 ·rcases hor with hk'|hk'
  ·exact h.apG k hk'
  ·intro e;exact h.ap k hk' e.symm
 ·rcases hl with hl|⟨g,hl,hge⟩
  ·rw[hl];exact h.apG k hk
  ·rw[hl];intro e;injection e with e
   have:=(h.own.foot hk).1;omega
theorem Facing.afQ(h:Facing w W B mc E tv G s b sl bl)(hO:aZ fB 3 62 B W' (fun k=>G k∨G' k) s' sl')(hg:Grew B W W' s.ownBlock)(hl:s'.ownBlock=s.ownBlock∨∃g,s'.ownBlock=some g∧W.heap.size≤g)
  (hG:∀k,G' k→B≤k∧some k≠b.ownBlock):Facing w (W'.setCell ⟨w.heap.size+1+1,1,none⟩ s') B mc E tv (fun k=>G k∨G' k) s' b sl' bl:=by
 obtain⟨h1,h2,h3,h4,h5,h6⟩:=h.grew hg;have hlo:=h.lo;have hlow:∀k,G k∨G' k→B≤k:=fun k hk=>hk.elim (h.low k) fun hk=>(hG k hk).1
 have hbad:aZ bn 2 53 B W' none_ b bl:=h.bad.grew bn.stays hg h.ap.symm;refine⟨h1.setCell (by simp;omega) _,h2.far (by simp;omega) _,h3.far (by simp) _,by simpa using h4.put 1 s',h5.stays aW.stays (fun _ h=>h) ((Keeps.refl _ _).setCell (fun hk=>by have:=hk.1;simp at this<;>omega) _),hO.set fB.stays (by simp;omega) (fun k hk=>by have:=hlow k hk;simp;omega) _,hbad.set bn.stays (by simp;omega) (fun k hk=>hk.elim) _,hlow,h.ap.push hl fun g hg=>(h.bad.row hg).2,fun k hk=>hk.elim (h.apG k) fun hk=>(hG k hk).2,hlo,by rw[size_set];exact h6⟩
theorem Facing.replace(h:Facing w W B mc E tv G s b sl bl)(hb:Below W.heap.size W W')(hO:aZ fB 3 62 W.heap.size W' G' s' sl')(hG:∀k,G' k→B≤k∧k<W.heap.size∧some k≠b.ownBlock):
  Facing w (W'.setCell ⟨w.heap.size+1+1,1,none⟩ s') B mc E tv G' s' b sl' bl:=by
 have h1:=h.later hb;have hlo:=h.lo;have hhi:=h.hi;refine⟨h1.below.setCell (by simp;omega) _,h1.bm.far (by simp;omega) _,h1.br.far (by simp) _,by simpa using h1.bo.put 1 s',h1.ts.stays aW.stays (fun _ h=>h) ((Keeps.refl _ _).setCell (fun hk=>by have:=hk.1;simp at this<;>omega) _),(hO.low hhi).set fB.stays (by simp;omega) (fun k hk=>by have:=(hG k hk).1;simp;omega) _,h1.bad.set bn.stays (by simp;omega) (fun k hk=>hk.elim) _,fun k hk=>(hG k hk).1,fun g hg hg2=>?_,fun k hk=>(hG k hk).2.2,hlo,by rw[size_set];exact h1.hi⟩;have h2:=(hO.row hg).1;have h3:=(h.bad.row hg2).2;omega
theorem Facing.sorted(h:Facing w W B mc E tv G s b sl bl)(hO:aZ fB 3 62 B W' G s sl')(hg:Grew B W W' s.ownBlock):Facing w W' B mc E tv G s b sl' bl:=by
 obtain⟨h1,h2,h3,h4,h5,h6⟩:=h.grew hg;exact⟨h1,h2,h3,h4,h5,hO,h.bad.grew bn.stays hg h.ap.symm,h.low,h.ap,h.apG,h.lo,h6⟩
theorem Facing.done(h:Facing w W B mc E tv G s b sl bl)(hs:sl.length≤100)(hb:bl.length≤100):
  Below w.heap.size w ((W.setCell ⟨w.heap.size+1,0,none⟩ tv).setCell ⟨w.heap.size+1,1,none⟩ s)∧
  bD ((W.setCell ⟨w.heap.size+1,0,none⟩ tv).setCell ⟨w.heap.size+1,1,none⟩ s) (fresh w.heap.size ((W.setCell ⟨w.heap.size+1,0,none⟩ tv).setCell ⟨w.heap.size+1,1,none⟩ s).heap.size) [tv,s] ⟨E,sl⟩∧
  SliceOf bn 2 24 ((W.setCell ⟨w.heap.size+1,0,none⟩ tv).setCell ⟨w.heap.size+1,1,none⟩ s) (fresh w.heap.size ((W.setCell ⟨w.heap.size+1,0,none⟩ tv).setCell ⟨w.heap.size+1,1,none⟩ s).heap.size) b bl:=by
 have hlo:=h.lo;have hhi:=h.hi;have hown:=(h.own.set fB.stays (p:=⟨w.heap.size+1,0,none⟩) (by simp;omega) (fun k hk=>by have:=h.low k hk;simp;omega) tv).set fB.stays (p:=⟨w.heap.size+1,1,none⟩) (by simp;omega) (fun k hk=>by have:=h.low k hk;simp;omega) s;have hbad:=(h.bad.set bn.stays (p:=⟨w.heap.size+1,0,none⟩) (by simp;omega) (fun k hk=>hk.elim) tv).set bn.stays (p:=⟨w.heap.size+1,1,none⟩) (by simp;omega) (fun k hk=>hk.elim) s;refine⟨(h.below.setCell (by simp) _).setCell (by simp) _,⟨tv,s,rfl,h.ts.stays aW.stays (fun k hk=>⟨by have:=hk.1;omega,by simp only[size_set];have:=hk.2;omega⟩) (((Keeps.refl _ _).setCell (fun hk=>by have:=hk.1;simp at this<;>omega) _).setCell (fun hk=>by have:=hk.1;simp at this<;>omega) _),?_⟩,?_⟩
 ·exact hown.slice fB.stays (fun k hk=>⟨by have:=h.low k hk;omega,by simp only[size_set];exact(h.own.foot hk).1⟩) (fun k h1 h2=>⟨by omega,h2⟩) (by first|omega|(show sl.length*56≤_;omega)) (by first|omega|(show sl.length≤_;omega))
 ·exact hbad.slice bn.stays (fun k hk=>hk.elim) (fun k h1 h2=>⟨by omega,h2⟩) (by first|omega|(show sl.length*56≤_;omega)) (by first|omega|(show sl.length≤_;omega))
end
end Go.Proofs.YtjaladhdnbhliaaGreatDoor
