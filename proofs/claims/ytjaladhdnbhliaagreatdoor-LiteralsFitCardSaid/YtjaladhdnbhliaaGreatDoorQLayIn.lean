/- Parts. -/
import Derived.Test.YtjaladhdnbhliaaGreatDoorQBytes
import Derived.Test.YtjaladhdnbhliaaGreatDoorQTreeChk4
import Derived.Deep.RegionHeld3
set_option maxHeartbeats 8000000
set_option maxRecDepth 100000
namespace Go.Proofs.YtjaladhdnbhliaaGreatDoor
open Go.Proofs.Tryz
def sG{α:Type}(f:α→ByteArray)(y:α):List α→List α
 |[]=> [y]
 |x::xs=>if nT (f y) (f x)=true then y::x::xs else x::sG f y xs
def jf{α:Type}(f:α→ByteArray)(l:List α):List α:=l.foldl (fun acc y=>sG f y acc) []
def kZ{α:Type}(f:α→ByteArray)(y:α)(p:List α×Bool)(x:α):List α×Bool:=
 if p.2=false∧nT (f y) (f x)=true then(p.1++ [y,x],true)else(p.1++ [x],p.2)
def oO{α:Type}(f:α→ByteArray)(y:α)(l:List α)(k:Nat):List α×Bool:=(l.take k).foldl (kZ f y) ([],false)
def Sorted{α:Type}(f:α→ByteArray)(l:List α):Prop:=l.Pairwise fun a b=>nT (f a) (f b)=true
section
variable {α:Type} {f:α→ByteArray} {x y:α} {l l':List α} {k:Nat}
theorem vM:jf f (l++ [y])=sG f y (jf f l):=by simp[jf,List.foldl_append]
theorem Lp:oO f y l 0=([],false):=rfl
theorem Dp(hx:l[k]? =some x):oO f y l (k+1)=kZ f y (oO f y l k) x:=by
 unfold oO;rw[List.take_add_one,hx,List.foldl_append]
 rfl
theorem Ah(p:List α)(h:nT (f y) (f x)=true):kZ f y (p,false) x=(p++ [y,x],true):=by unfold kZ;rw[if_pos ⟨rfl,h⟩]
theorem Ai(p:List α)(h:nT (f y) (f x)=false):kZ f y (p,false) x=(p++ [x],false):=by unfold kZ;rw[if_neg (by simp[h])]
theorem yt(p:List α):kZ f y (p,true) x=(p++ [x],true):=by unfold kZ;rw[if_neg (by simp)]
theorem UR(p:List α):∀l:List α,l.foldl (kZ f y) (p,true)=(p++l,true)
 |[]=>by simp
 |x::l=>by rw[List.foldl_cons,yt,UR (p++ [x]) l];simp
theorem Rl:∀(l p:List α),(if(l.foldl (kZ f y) (p,false)).2=true then(l.foldl (kZ f y) (p,false)).1 else(l.foldl (kZ f y) (p,false)).1++ [y])=p++sG f y l
 |[],p=>by simp[sG]
 |x::l,p=>by
  rw[List.foldl_cons];cases h:nT (f y) (f x)with
  |true=>rw[Ah p h,UR];simp[sG,h]
  |false=>rw[Ai p h,Rl l (p++ [x])];simp[sG,h]
theorem Aj(h:(oO f y l l.length).2=true):(oO f y l l.length).1=sG f y l:=by
 have:=Rl (f:=f) (y:=y) l [];unfold oO at h⊢;rw[List.take_length]at h⊢;rw[if_pos h]at this;simpa using this
theorem Ce(h:(oO f y l l.length).2=false):(oO f y l l.length).1++ [y]=sG f y l:=by
 have:=Rl (f:=f) (y:=y) l [];unfold oO at h⊢;rw[List.take_length]at h⊢;rw[if_neg (by simp[h])]at this;simpa using this
theorem EY:∀k,(oO f y l k).1.length≤k+(if(oO f y l k).2=true then 1 else 0)
 |0=>by simp[oO]
 |k+1=>by
  have ih:=EY k;cases hx:l[k]? with
  |none=>
   have:oO f y l (k+1)=oO f y l k:=by
    unfold oO;rw[List.take_add_one,hx];simp
   rw[this];omega
  |some x=>
   rw[Dp hx];generalize oO f y l k=p at ih⊢;obtain⟨p,d⟩:=p;cases d with
   |true=>rw[yt];simp at ih⊢;omega
   |false=>
    cases h:nT (f y) (f x)with
    |true=>rw[Ah p h];simp at ih⊢;omega
    |false=>rw[Ai p h];simp at ih⊢;omega
theorem Iw(k:Nat):(oO f y l k).1.length≤k+1:=by
 have:=EY k (f:=f) (y:=y) (l:=l);split at this<;>omega
theorem yj:∀l:List α,(sG f y l).Perm (y::l)
 |[]=>List.Perm.refl _
 |x::l=>by
  unfold sG;split
  ·exact List.Perm.refl _
  ·exact((yj l).cons x).trans (List.Perm.swap y x l)
theorem y8:∀l acc:List α,(l.foldl (fun acc y=>sG f y acc) acc).Perm (l++acc)
 |[],acc=>List.Perm.refl _
 |x::l,acc=>by
  rw[List.foldl_cons];refine(y8 l _).trans (((yj acc).append_left l).trans ?_);rw[List.cons_append];exact List.perm_middle
theorem rC(l:List α):(jf f l).Perm l:=by
 have:=y8 (f:=f) l [];simpa[jf]using this
theorem iC(l:List α):(jf f l).length=l.length:=(rC l).length_eq
theorem EX:∀l:List α,Sorted f l→(∀x∈l,f x≠f y)→Sorted f (sG f y l)
 |[],_,_=>by simp[sG,Sorted]
 |x::l,h,hn=>by
  have h1:=(List.pairwise_cons.1 h).1;have h2:=(List.pairwise_cons.1 h).2;unfold sG;split
  ·next hh=>
   refine List.pairwise_cons.2 ⟨fun z hz=>?_,h⟩;rcases List.mem_cons.1 hz with rfl|hz
   ·exact hh
   ·exact tY hh (h1 z hz)
  ·next hh=>
   have hxy:nT (f x) (f y)=true:=by
    cases hq:nT (f x) (f y)with
    |true=>rfl
    |false=>exact absurd (Bq hq (by simpa using hh)) (hn x (List.mem_cons_self ..))
   refine List.pairwise_cons.2 ⟨fun z hz=>?_,EX l h2 fun z hz=>hn z (List.mem_cons_of_mem _ hz)⟩;rcases List.mem_cons.1 ((yj l).mem_iff.1 hz)with rfl|hz
   ·exact hxy
   ·exact h1 z hz
def zB{α:Type}(f:α→ByteArray)(l:List α):Prop:=l.Pairwise fun a b=>f a≠f b
theorem vN:∀l acc:List α,Sorted f acc→zB f l→(∀x∈l,∀z∈acc,f x≠f z)→Sorted f (l.foldl (fun acc y=>sG f y acc) acc)
 |[],_,h,_,_=>h
 |x::l,acc,h,ha,hn=>by
  have h1:=(List.pairwise_cons.1 ha).1;have h2:=(List.pairwise_cons.1 ha).2;rw[List.foldl_cons];refine vN l _ (EX acc h fun z hz=>(hn x (List.mem_cons_self ..) z hz).symm) h2 fun z hz u hu=>?_
  rcases List.mem_cons.1 ((yj acc).mem_iff.1 hu)with rfl|hu
  ·exact(h1 z hz).symm
  ·exact hn z (List.mem_cons_of_mem _ hz) u hu
theorem wC(h:zB f l):Sorted f (jf f l):=vN l [] List.Pairwise.nil h fun _ _ _ hz=>absurd hz (List.not_mem_nil)
theorem Nb(hp:l'.Perm l)(ha:zB f l)(hs:l'.Pairwise fun a b=>nT (f b) (f a)=false):l'=jf f l:=by
 refine List.Perm.eq_of_pairwise (le:=fun a b=>nT (f b) (f a)=false) (fun a b ha' hb' h1 h2=>?_) hs ?_ (hp.trans (rC l).symm)
 ·have he:f a=f b:=Bq h2 h1;refine Classical.byContradiction fun hne=>?_
  have hb:=(rC (f:=f) l).mem_iff.1 hb';have ha2:=hp.mem_iff.1 ha';obtain⟨i,hi,rfl⟩:=List.getElem_of_mem ha2;obtain⟨j,hj,rfl⟩:=List.getElem_of_mem hb;have hg:=List.pairwise_iff_getElem.1 ha;rcases Nat.lt_trichotomy i j with e|e|e
  ·exact hg i j hi hj e he
  ·subst e;exact hne rfl
  ·exact hg j i hj hi e he.symm
 ·exact(wC ha).imp fun h=>G8 h
theorem Sorted.apart(h:Sorted f l):zB f l:=List.Pairwise.imp (fun h=>LM h) h
end
open Go.RowKit Go.Shelf
theorem Yi(a b:ByteArray):(!Op.bytesLess a.toList b.toList&& !(a.toList==b.toList))=nT b a:=by
 have h1:Op.bytesLess a.toList b.toList=nT a b:=rfl;rw[h1];cases h:nT b a with
 |true=>
  have h2:=G8 h;have h3:=LM h;have h4:(a.toList==b.toList)=false:=by
   rw[beq_eq_false_iff_ne];intro e;rw[ByteArray.toList_eq,ByteArray.toList_eq]at e;exact h3 (data_inj e).symm
  rw[h2,h4];rfl
 |false=>
  cases h2:nT a b with
  |true=>rfl
  |false=>
   obtain rfl:=Bq h2 h;simp
theorem aZ.at_{α:Type}{R:CR α}{sz base:Nat}{e:TypeId}{F:aV}{w:World}{A:Option Addr}{n c:Nat}{l:List α}{k:Nat}(h:aZ R sz e base w F (.slice A n c) l)(hk:k<l.length):
  ∃b off cs,A=some ⟨b,off,none⟩∧b<w.heap.size∧(Value.slice A n c).ownBlock=some b∧cs.length=sz∧R w F cs l[k]∧∀j u,cs[j]? =some u→w.cell? ⟨b,off+k*sz+j,none⟩=some u:=by
 obtain⟨xs,h1,h2,_⟩:=h;rcases h1.2 with ⟨_,h0⟩|⟨g,cap,cur,hv,hb,hcell,hlen,hcap,hcs,htk⟩
 ·omega
 ·injection hv with hv1 hv2 hv3
  subst hv1;obtain⟨cs,k1,k2,k3⟩:=h2.2 k l[k] (aK hk);refine⟨g,0,cs,rfl,(Array.getElem?_eq_some_iff.1 hcell).1,rfl,k1,k2,fun j u hj=>?_⟩;have h4:=k3 j u hj;have hlt:k*sz+j<xs.length:=(List.getElem?_eq_some_iff.1 h4).1;rw[←htk,List.getElem?_take_of_lt (by rw[h1.1]at hlt;exact hlt)]at h4;simp only[World.cell?,hcell,Nat.zero_add];simpa using h4
structure Tabs(w:World)(mx:Int):Prop where
 pow:Pow w
 syn:∃te pe,w.cell? ⟨7,0,none⟩=some (.iface te pe)
 rng:∃te pe,w.cell? ⟨8,0,none⟩=some (.iface te pe)
 max:w.cell? ⟨1,0,none⟩=some (.int .i64 mx)
theorem Tabs.later{w U:World}{mx:Int}(h:Tabs w mx)(hU:Below w.heap.size w U):Tabs U mx:=by
 obtain⟨te,pe,hs⟩:=h.syn;obtain⟨tr,pr,hr⟩:=h.rng;exact⟨h.pow.later hU,⟨te,pe,(hU.cell (World.block_lt_of_cell? w _ hs)).trans hs⟩,⟨tr,pr,(hU.cell (World.block_lt_of_cell? w _ hr)).trans hr⟩,(hU.cell (World.block_lt_of_cell? w _ h.max)).trans h.max⟩
def aeO(w:World)(e:Ending)(w':World):Prop:=∃(n:Int) (N:Nat),e=.returned (.tuple #[.int .i64 n,.iface 299 (.pointer (some ⟨N,0,none⟩))])∧Below w.heap.size w w'
theorem ac1(s:ByteArray)(w:World)(mx:Int)(hs:s.size≤140737488355328)(hT:Tabs w mx)(h:∀v,Lib.atoiAll s.data.toList≠ .ok v):Calls prog 246 #[.string s] w (aeO w):=by
 obtain⟨te,pe,hsy⟩:=hT.syn;obtain⟨tr,pr,hrg⟩:=hT.rng;cases hq:Lib.atoiAll s.data.toList with
 |ok v=>exact absurd hq (h v)
 |«syntax»=>exact(Tryz.strconv_Atoi_syntax s (by omega) hq _ w hsy (.inr ⟨_,_,rfl⟩)).mono fun e w' ⟨N,he,_,_,hb⟩=>⟨_,N,he,hb⟩
 |range=>exact(Tryz.strconv_Atoi_range s (by omega) hq _ w hrg (.inr ⟨_,_,rfl⟩)).mono fun e w' ⟨N,he,_,_,hb⟩=>⟨_,N,he,hb⟩
theorem ZC(s:ByteArray)(w:World)(v:Int)(hs:s.size≤140737488355328)(h:Lib.atoiAll s.data.toList=.ok v):Calls prog 246 #[.string s] w fun e w'=>e=.returned (.tuple #[.int .i64 v,.nilIface])∧Below w.heap.size w w':=
 (Tryz.strconv_Atoi_ok s (by omega) v h w).mono fun e w' ⟨he,hw⟩=>⟨he,by
  rcases hw with rfl|⟨t,rfl⟩
  ·exact Below.refl _ _
  ·exact Lib.bytesWorld_below _ _ _⟩
theorem YJ(s:ByteArray)(w:World)(mx:Int)(hs:s.size≤140737488355328)(hT:Tabs w mx):Calls prog 194 #[.string s] w fun e w'=>e=.returned (.bool (jC s))∧Below w.heap.size w w':=by
 by_cases h:∃v,Lib.atoiAll s.data.toList=.ok v
 ·obtain⟨v,hv⟩:=h;have hc:=ZC s w v hs hv;have hn:=aee hv;have hb:=Lib.atoiAll_bounds hv;have hit:=fun U (hU:Below w.heap.size w U) h0 h1=>adZ v U h0 h1 (hT.pow.later hU)
  obtain⟨HC,HN,HI⟩:=ak hc hn hit;clear hc hn hit;clear hv hT
  by_cases h0:0≤v
  ·by_cases h1:v≤999999
   ·obtain⟨z,hz⟩:∃z,((Kz v).toList==s.toList)=z:=⟨_,rfl⟩;have hit:=fun U hU=>HI.out U hU h0 h1
    have hzz:jC s=z:=by
     rw[HN.out,←hz,str_eq,decide_eq_true h0,decide_eq_true h1,Bool.true_and,Bool.true_and,decide_eq_decide];constructor
     ·intro e;have hx:(Kz v).data.toList=s.data.toList:=by unfold Kz;rw[wL];exact e
      exact zK hx
     ·intro e;rw[←e];unfold Kz;rw[wL]
    rw[hzz];have HIT:=ah hit;clear hit;clear HI hzz;go_enter func194,ntmps194;go_wp2_with fail;refine HC.out.mono ?_;rintro e W2 ⟨rfl,hb2⟩;have Hb:=ah hb2;clear hb2;go_wp2_with fail;refine(HIT.out W2 Hb.out).mono ?_;rintro e W3 ⟨rfl,hb3⟩;have HB3:=ah hb3;clear hb3;go_wp2_with fail;go_ret;exact⟨dw (by simp),aS Hb.out HB3.out⟩
   ·have hn:jC s=false:=by rw[HN.out,decide_eq_false h1];simp
    rw[hn];clear HI hn;go_enter func194,ntmps194;go_wp2_with fail;refine HC.out.mono ?_;rintro e W2 ⟨rfl,hb2⟩;have Hb:=ah hb2;clear hb2;go_wp2_with fail;go_ret;exact⟨rfl,Hb.out⟩
  ·have hn:jC s=false:=by rw[HN.out,decide_eq_false h0];simp
   rw[hn];clear HI hn;go_enter func194,ntmps194;go_wp2_with fail;refine HC.out.mono ?_;rintro e W2 ⟨rfl,hb2⟩;have Hb:=ah hb2;clear hb2;go_wp2_with fail;go_ret;exact⟨rfl,Hb.out⟩
 ·have hc:=ac1 s w mx hs hT (fun v hv=>h ⟨v,hv⟩);rw[abw fun v hv=>h ⟨v,hv⟩];have HC:=ah hc;clear hc;clear h hT;go_enter func194,ntmps194;go_wp2_with fail;refine HC.out.mono ?_;rintro e W2 ⟨n,N,rfl,hb2⟩;have Hb:=ah hb2;clear hb2;go_wp2_with fail;go_ret;exact⟨rfl,Hb.out⟩
theorem UQ(c:UInt8):decide (0≤Lib.indexByte yH c)=yH.contains c:=by
 have h:∀(l:List UInt8),decide (0≤Lib.indexByte l c)=l.contains c:=by
  intro l
  induction l with
  |nil=>rfl
  |cons b r ih=>
   have hg:=Lib.indexByte_ge r c;rw[List.contains_cons];unfold Lib.indexByte
   by_cases hb:b=c
   ·subst hb;simp
   ·have h1:(b==c)=false:=by simp[hb]
    have h2:(c==b)=false:=by simp;exact fun e=>hb e.symm
    rw[h1,h2,Bool.false_or,←ih]
    by_cases hm:Lib.indexByte r c= -1
    ·rw[if_neg (by simp),if_pos (by simp[hm]),hm]
    ·rw[if_neg (by simp),if_neg (by simp[hm]),decide_eq_decide];omega
 exact h _
theorem one_byte{s:ByteArray}(h:s.size=1):∃c,s=⟨#[c]⟩:=by
 have hl:s.data.toList.length=1:=h
 match hx:s.data.toList,hl with
 |[c],_=>exact⟨c,zK (by rw[hx])⟩
theorem MJ(c:UInt8):rY ⟨#[c]⟩=yH.contains c:=rfl
theorem VF{s:ByteArray}(h:s.size≠1):rY s=false:=by
 unfold rY;split
 ·next c hx=>exact absurd (show s.data.toList.length=1 by rw[hx];rfl) h
 ·rfl
theorem Gu(c:UInt8)(w:World):Calls prog 114 #[.string ⟨#[61,40,41,91,93,44,43,46,58,60,62]⟩,.string ⟨#[c]⟩] w fun e w'=>e=.returned (.bool (rY ⟨#[c]⟩))∧w=w':=
 (Tryz.strings_Contains_one ⟨#[61,40,41,91,93,44,43,46,58,60,62]⟩ c w).mono fun e w' ⟨he,hw⟩=>⟨by rw[he];exact dw (UQ c),hw.symm⟩
theorem I4{f:Nat}{k:Int}{o nm:ByteArray}{args:List Ty}(h:dn (f+1) (.mk k o nm args)=0):
  k=1∨k=2∨(k=3∧∃a,args= [a]∧dn f a=0)∨(k=4∧aX nm=true):=by
 unfold dn at h;split at h
 ·cases h
 ·next hk=>
  split at h
  ·next h3=>
   right;right;left;refine⟨h3,?_⟩
   match args,h with
   |[a],h=>
    simp only at h;split at h
    ·exact⟨a,rfl,h⟩
    ·cases h
   |[],h=>cases h
   |_::_::_,h=>cases h
  ·next h3=>
   split at h
   ·cases h
   ·split at h
    ·next h4=>
     right;right;right;refine⟨h4,?_⟩;split at h
     ·next hh=>exact hh.1
     ·cases h
    ·next h4=>omega
theorem DR{s:ByteArray}(h:aX s=true):s.size≠0:=by
 intro h0;rw[aX,Ea h0]at h;cases h
theorem SliceOf.aea{α:Type}{R R':CR α}{sz jZ:Nat}{w:World}{F:aV}{v:Value}{l:List α}(h:SliceOf R sz jZ w F v l)(hr:∀cs x,R w F cs x→R' w F cs x):SliceOf R' sz jZ w F v l:=by
 obtain⟨A,cap,e,h1,h2,h3,h3',h4⟩:=h;refine⟨A,cap,e,h1,h2,h3,h3',fun hl=>?_⟩;obtain⟨b,off,hA,hb,hx⟩:=h4 hl;refine⟨b,off,hA,hb,fun i x hi=>?_⟩;obtain⟨cs,hc,hr',hcell⟩:=hx i x hi;exact⟨cs,hc,hr _ _ hr',hcell⟩
theorem Ux{m:Module}{l:List Import}(h:bG l=0)(o:ByteArray):nN Known.name (bZ m l o).types:=by
 unfold bZ;split
 ·next x hx=>
  have hx:=KJ hx;unfold bG at h
  by_cases ng:24<l.length
  ·rw[if_pos ng]at h;cases h
  ·rw[if_neg ng]at h;have hb:=ny (gq h) x hx;have hf:fF x.face=0:=by
    refine Classical.byContradiction fun hne=>?_
    by_cases hn:aX x.name=false
    ·rw[l9 hn]at hb;exact absurd hb (by decide)
    ·rw[l7 (by simpa using hn) rfl hne]at hb;exact hne hb
   exact(oJ hf).1
 ·intro i x y h;simp[pJ]at h
theorem mod_zero{m:Module}(h:dD m=0):dL fZ m.types=0∧dL jg m.funcs=0:=by
 have hs:=gJ h;unfold dD at h;rw[if_neg (by omega)]at h
 by_cases h1:dL qJ m.uses=0
 ·rw[if_neg (by simp[h1])]at h
  by_cases h2:dL fZ m.types=0
  ·rw[if_neg (by simp[h2])]at h;exact⟨h2,h⟩
  ·rw[if_pos h2]at h;exact absurd h h2
 ·rw[if_pos h1]at h;exact absurd h h1
theorem lI{x:Field}(h:fZ x=0):aX x.name=true∧dn 10 x.dV=0:=by
 unfold fZ at h;split at h
 ·next hn=>exact⟨hn,h⟩
 ·cases h
theorem PV{m:Module}(h:dD m=0):∀x∈m.types,dn 10 x.dV=0:=fun x hx=>(lI (iZ (mod_zero h).1 x hx)).2
theorem Bf{α:Type}{p:α→Bool}{l:List α}{k:Nat}{x:α}(hx:l[k]? =some x)(h:p x=true)(hb:∀j,j<k→∀y,l[j]? =some y→p y=false):l.find? p=some x:=by
 rw[List.find?_eq_some_iff_getElem];obtain⟨hk,rfl⟩:=List.getElem?_eq_some_iff.1 hx;refine⟨h,k,hk,rfl,fun j hj=>?_⟩;simp[hb j hj _ (aK (by omega))]
theorem ZL{α:Type}{p:α→Bool}{l:List α}(hb:∀j,j<l.length→∀y,l[j]? =some y→p y=false):l.find? p=none:=by
 rw[List.find?_eq_none];intro y hy;obtain⟨j,hj,rfl⟩:=List.mem_iff_getElem.1 hy;simp[hb j hj _ (aK hj)]
theorem Zd(x:Field)(cs:List Value)(F:aV)(t:ByteArray)(b:Nat)(W:World)(hx:aQ W F cs x)(ha:W.cell? ⟨b,2,none⟩=some (.string t)):
  Calls prog 220 #[.agg cs.toArray,.pointer (some ⟨b,0,none⟩)] W fun e w'=>e=.returned (.bool (bU t x))∧Below W.heap.size W w':=by
 have hlt:=World.block_lt_of_cell? W _ ha;obtain⟨c0,c1,c2,c3,rfl,_,ht⟩:=aQ.form hx;obtain⟨A2,n2,hf⟩:=iD.form ht;simp only[List.cons.injEq,and_true]at hf;obtain⟨rfl,rfl,rfl,rfl⟩:=hf;clear hx ht;unfold bU iT;go_enter func220,ntmps220;cases hq:(x.name.toList==t.toList);all_goals (go_wp2;go_ret;exact⟨by simp,by go_grown⟩)
theorem Sl(l:List Field)(T1:Option Addr)(e1:Nat)(t:ByteArray)(b:Nat)(F:aV)(w:World)(hF:∀k,F k→k<w.heap.size)(hl:SliceOf aQ 5 80 w F (.slice T1 l.length e1) l)(ha:w.cell? ⟨b,2,none⟩=some (.string t)):
  Calls prog 153 #[.slice T1 l.length e1,.func (.func 220) #[] #[.pointer (some ⟨b,0,none⟩)]] w fun e w'=>e=.returned (.int .i64 (fidx (bU t) l))∧Below w.heap.size w w':=
 xq (.slice T1 l.length e1) l F 220 #[.pointer (some ⟨b,0,none⟩)] (bU t) w (enters_of func220 (by kernel_rfl) rfl) hF hl (fun U x cs _ hU hr=>by
  have h:=Zd x cs F t b U hr ((hU.cell (World.block_lt_of_cell? w _ ha)).trans ha);obtain⟨_,_,_,_,rfl,_,_⟩:=aQ.form hr;exact h)
def Zz(m:Module)(l:List Import)(n:Nat):Prop:=∀(f:Nat) (v:ByteArray) (us:List ByteArray) (t:Ty) (b:Nat) (U1 T1 T2 L1 S1:Option Addr) (u1 e1 e2 l1 s1:Nat) (cs:List Value) (w:World),
 dn f t=0→f≤10→f+11*lM m us≤n→us.length+lM m us≤24→okS v→
 aN w (old w.heap.size) [.slice U1 m.uses.length u1,.slice T1 m.types.length e1,.slice T2 m.funcs.length e2] m→SliceOf aU 4 72 w (old w.heap.size) (.slice L1 l.length l1) l→SliceOf aY 1 16 w (old w.heap.size) (.slice S1 us.length s1) us→
 Box w b 214 #[.slice U1 m.uses.length u1,.slice T1 m.types.length e1,.slice T2 m.funcs.length e2,.slice L1 l.length l1,.string v,.slice S1 us.length s1]→iD w (old w.heap.size) cs t→
 Calls prog 154 #[.pointer (some ⟨b,0,none⟩),.agg cs.toArray] w fun e w'=>e=.returned (.tuple #[.string (bW m l n v us t).1,.int .i64 (bW m l n v us t).2])∧Below w.heap.size w w'
theorem Oi(m:Module)(l:List Import)(hl0:bG l=0)(n:Nat)(v:ByteArray)(us:List ByteArray)(o nm:ByteArray)(args:List Ty)(A:Option Addr)(cap:Nat)(b:Nat)(U1 T1 T2 L1 S1:Option Addr)(u1 e1 e2 l1 s1:Nat)(w:World)
  (ho0:o.size≠0)
  (hm:aN w (old w.heap.size) [.slice U1 m.uses.length u1,.slice T1 m.types.length e1,.slice T2 m.funcs.length e2] m) (hl:SliceOf aU 4 72 w (old w.heap.size) (.slice L1 l.length l1) l)
  (hB:Box w b 214 #[.slice U1 m.uses.length u1,.slice T1 m.types.length e1,.slice T2 m.funcs.length e2,.slice L1 l.length l1,.string v,.slice S1 us.length s1]):
  Calls prog 154 #[.pointer (some ⟨b,0,none⟩),.agg #[.int .i64 4,.string o,.string nm,.slice A args.length cap]] w fun e w'=>e=.returned (.tuple #[.string (bW m l (n+1) v us (.mk 4 o nm args)).1,.int .i64 (bW m l (n+1) v us (.mk 4 o nm args)).2])∧Below w.heap.size w w':=by
 rw[VI ho0];have hoz:(o.toList== [])=false:=by
  cases h:o.toList with
  |nil=>
   have h2:=bC o;rw[h]at h2;exact absurd (of_decide_eq_true h2.symm) ho0
  |cons=>rfl
 have hfr:=fun U (hU:Below w.heap.size w U)=>vX m l o [.slice U1 m.uses.length u1,.slice T1 m.types.length e1,.slice T2 m.funcs.length e2] (.slice L1 l.length l1) (old U.heap.size) (old U.heap.size) U eF eF (dI aN.stays hm hU) (bK aU.stays hl hU)
 have hty:=fun U ds F (hF:∀k,F k→k<U.heap.size) (h:bD U F ds (bZ m l o))=>EK (bZ m l o) nm ds F U hF h (Ux hl0 o)
 generalize iO (bZ m l o).types nm=r at hty⊢;obtain⟨S,C⟩:=r;obtain⟨zb,hzb⟩:∃z,ku m l o=z:=⟨_,rfl⟩;rw[hzb]at hfr⊢;generalize bZ m l o=Fc at hfr hty⊢;dsimp only at hty⊢;obtain⟨E,hE⟩:∃E,(if zb=true∧C=0 then(S,(0:Int))else(⟨#[]⟩,5))=E:=⟨_,rfl⟩;rw[hE];obtain⟨JJ,XV,HE⟩:=ak hfr hty hE;clear hfr hty hE;clear hzb hm hl hl0;go_enter func154,ntmps154;go_upto_region 14 with fail
 have hBt:=Box.made w 75 #[.int .i64 4,.string o,.string nm,.slice A args.length cap];have hbt:Below w.heap.size w (w.alloc (.cells #[.int .i64 4,.string o,.string nm,.slice A args.length cap] 75)):=by go_grown
 have pW:(w.alloc (.cells #[.int .i64 4,.string o,.string nm,.slice A args.length cap] 75)).heap.size=w.heap.size+1:=by simp
 generalize w.alloc (.cells #[.int .i64 4,.string o,.string nm,.slice A args.length cap] 75)=W1 at hBt hbt pW⊢;have hBs:=hB.later hbt hB.lt;have hls:=hBs.lt;have hlt:=hBt.lt;have hS:∀w',Below W1.heap.size W1 w'→w'.cell? ⟨b,0,none⟩=some (.slice U1 m.uses.length u1)∧w'.cell? ⟨b,1,none⟩=some (.slice T1 m.types.length e1)∧w'.cell? ⟨b,2,none⟩=some (.slice T2 m.funcs.length e2)∧w'.cell? ⟨b,3,none⟩=some (.slice L1 l.length l1)∧w'.cell? ⟨w.heap.size,1,none⟩=some (.string o):=fun w' h=>
  ⟨(h.cell (p:=⟨b,0,none⟩) hls).trans (hBs.at_ 0 _ rfl),(h.cell (p:=⟨b,1,none⟩) hls).trans (hBs.at_ 1 _ rfl),(h.cell (p:=⟨b,2,none⟩) hls).trans (hBs.at_ 2 _ rfl),(h.cell (p:=⟨b,3,none⟩) hls).trans (hBs.at_ 3 _ rfl),(h.cell (p:=⟨w.heap.size,1,none⟩) hlt).trans (hBt.at_ 1 _ rfl)⟩
 have hdr:Below W1.heap.size W1 W1.drew:=by go_grown
 obtain⟨HS,bP,HBt,OE⟩:=au hS hdr hBt hbt;clear hS hdr hBt hbt;clear hBs hls hlt hB pW;go_cut [10,11] (fun s10 s11 wc=>∃(nb:Nat) (T5 T6:Option Addr) (e5 e6:Nat),s10=.pointer (some ⟨nb,0,none⟩)∧s11=.bool zb∧Aside (Box wc nb 42 #[.slice T5 Fc.types.length e5,.slice T6 Fc.funcs.length e6])∧Aside (Below W1.heap.size W1 wc)∧Aside (bD wc (old wc.heap.size) [.slice T5 Fc.types.length e5,.slice T6 Fc.funcs.length e6] Fc))
 case first=>
  go_region_held3(fun w'=>w'.cell? ⟨b,0,none⟩=some (.slice U1 m.uses.length u1)∧w'.cell? ⟨b,1,none⟩=some (.slice T1 m.types.length e1)∧w'.cell? ⟨b,2,none⟩=some (.slice T2 m.funcs.length e2)∧w'.cell? ⟨b,3,none⟩=some (.slice L1 l.length l1)∧w'.cell? ⟨w.heap.size,1,none⟩=some (.string o))
   (exact HS.out _ (by first|exact bP.out|exact bP.out.alloc bP.out.size _|(go_grown;done)|exact(bP.out.setCell (p:=⟨_,_,none⟩) (aJ _) _).setCell (p:=⟨_,_,none⟩) (aJ _) _))
   ((go_at_call 95;(first|(with_reducible refine(JJ.out _ (OE.out.trans (bP.out.mono OE.out.size))).mono ?_)|(with_reducible refine(JJ.out _ (OE.out.trans ((show Below W1.heap.size W1 _ from by go_grown).mono OE.out.size))).mono ?_)|(with_reducible refine(JJ.out _ (OE.out.trans ((bP.out.alloc bP.out.size _).mono OE.out.size))).mono ?_));rintro e w7 ⟨ds,rfl,hb7,NW⟩;obtain⟨T5,e5,T6,e6,rfl⟩:=bD.form NW;(first|(have hbx:Box w7 W1.heap.size 42 #[.slice none 0 0,.slice none 0 0]:=(by first|exact iI hb7|exact gI hb7);have y0:=hbx.at_ 0 _ rfl;have y1:=hbx.at_ 1 _ rfl;have y2:=hbx.free 0;have y3:=hbx.free 1;have oq:=Lib.hid hbx;clear hbx)|skip);have hb8:=(by first|exact aS bP.out hb7|exact iJ hb7|exact lW bP.out hb7:Below W1.heap.size W1 w7);have bP:=Lib.hid hb8;have Zq:=Lib.hid NW;clear hb7 hb8 NW))
  ·go_wp2_with fail;go_meet;exact⟨_,T5,T6,e5,e6,rfl,rfl,aside (Box.made _ _ _),aside (bP.out.alloc bP.out.size _),aside (dI bD.stays (DU bD.stays Zq.out cZ) ((Below.refl _ _).alloc (aJ _) _))⟩
  ·go_wp2_with fail;go_meet;exact⟨_,T5,T6,e5,e6,rfl,rfl,aside (by simpa using (oq.out.put 0 (.slice T5 Fc.types.length e5)).put 1 (.slice T6 Fc.funcs.length e6)),aside ((bP.out.setCell (p:=⟨W1.heap.size,0,none⟩) (aJ _) _).setCell (p:=⟨W1.heap.size,1,none⟩) (aJ _) _),
    aside (DU bD.stays (bD.stays.set (p:=⟨W1.heap.size,1,none⟩) (bD.stays.set (p:=⟨W1.heap.size,0,none⟩) Zq.out (fH (by simp)) _) (fH (by simp)) _) (fun k hk=>by rw[size_set,size_set];exact hk.2))⟩
 case rest=>
 obtain⟨nb,T5,T6,e5,e6,rfl,rfl,hbx,hb2,hf2⟩:=hcut;obtain⟨W2,rfl⟩:∃W,W=wc:=⟨_,rfl⟩;have NV:=HBt.out.later hb2.out HBt.out.lt;have hbw:=OE.out.trans (hb2.out.mono OE.out.size);have t2:=NV.at_ 2 _ rfl;have f0:=hbx.out.at_ 0 _ rfl;have f1:=hbx.out.at_ 1 _ rfl;have hcl:=XV.out W2 _ _ eF hf2.out;obtain⟨Gh,cO⟩:=aj hcl hbw;clear hcl hbw;clear NV hb2 hf2 hbx;go_wp2_with fail;refine Gh.out.mono ?_;rintro e W3 ⟨rfl,hb3⟩;have hbw3:=cO.out.trans (hb3.mono cO.out.size);have fV:=ah hbw3;clear hbw3;clear hb3;cases zb with
 |false=>
  obtain rfl:E=(⟨#[]⟩,5):=by rw[←HE.out,if_neg (by simp)]
  go_wp2_with fail
  go_ret2
  exact⟨rfl,fV.out⟩
 |true=>
  by_cases hC:C=0
  ·subst hC;obtain rfl:E=(S,0):=by rw[←HE.out,if_pos (by simp)]
   go_wp2_with fail
   go_ret2
   exact⟨rfl,fV.out⟩
  ·obtain rfl:E=(⟨#[]⟩,5):=by rw[←HE.out,if_neg (by simp[hC])]
   have hCz:(C==0)=false:=by simp[hC]
   go_wp2_with fail
   go_ret2
   exact⟨rfl,fV.out⟩
end Go.Proofs.YtjaladhdnbhliaaGreatDoor
