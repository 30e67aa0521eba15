/- Parts. -/
import Derived.Test.YtjaladhdnbhliaaGreatDoorQTreeChk2
import Derived.Test.YtjaladhdnbhliaaGreatDoorQFaceFind
namespace Go.Proofs.YtjaladhdnbhliaaGreatDoor
open Go.Proofs.Tryz
open Go.RowKit
theorem zK{a b:ByteArray}(h:a.data.toList=b.data.toList):a=b:=Go.WideShapes.bytes_inj (by rw[h])
theorem J7(a b:ByteArray):(a++b).data.toList=a.data.toList++b.data.toList:=by simp
theorem wL(l:List UInt8):(⟨l.toArray⟩:ByteArray).data.toList=l:=by simp
theorem mW(s:ByteArray):s.size=s.data.toList.length:=by rw[Array.length_toList];rfl
theorem vC(a b:ByteArray):(a++b).size=a.size+b.size:=by simp only[mW,J7,List.length_append]
theorem afb(s:ByteArray):(⟨s.data.toList.toArray⟩:ByteArray)=s:=by cases s;simp
def cat(l:List ByteArray):ByteArray:=l.foldl (· ++ ·) ⟨#[]⟩
def joined(l:List ByteArray):ByteArray:=⟨(Lib.join (l.map (·.data.toList)) [44,32]).toArray⟩
structure Token where
 kind:Int
 text:ByteArray
def fG:CR Token:=fun _ _ cs x=>cs= [.int .i64 x.kind,.string x.text]∧I64 x.kind∧okS x.text
theorem fG.stays:eH fG:=fun _ _ _ _ _ _ h _ _=>h
def Oa(l:List UInt8):Bool:=match l with
 |[]=>false
 |c::r=>(c::r).all fC&&(r.isEmpty|| !decide (c.toNat=48))
theorem Bz(c:UInt8)(r:List UInt8):Oa (c::r)=((c::r).all fC&&(r.isEmpty|| !decide (c.toNat=48))):=rfl
def jC(s:ByteArray):Bool:=decide (s.size≤6)&&Oa s.data.toList
def spell(acc:Nat):List UInt8→Nat
 |[]=>acc
 |c::r=>spell (acc*10+(c.toNat-48)) r
theorem D8:∀(l:List UInt8) (acc:Nat) (c:UInt8),spell acc (l++ [c])=spell acc l*10+(c.toNat-48)
 |[],_,_=>rfl
 |_::l,_,c=>D8 l _ c
theorem kV{c:UInt8}:fC c=true↔48≤c.toNat∧c.toNat≤57:=by simp[fC]
theorem Nh:∀(l:List UInt8) (acc:Nat),l.all fC=true→spell acc l<(acc+1)*10 ^ l.length
 |[],acc,_=>by show acc<(acc+1)*1;omega
 |c::r,acc,h=>by
  rw[List.all_cons,Bool.and_eq_true]at h;have h1:=kV.1 h.1;have h2:=Nh r (acc*10+(c.toNat-48)) h.2;rw[List.length_cons,Nat.pow_succ];have h3:(acc*10+(c.toNat-48)+1)*10 ^ r.length≤(acc+1)*10*10 ^ r.length:=Nat.mul_le_mul_right _ (by omega);have h4:(acc+1)*(10 ^ r.length*10)=(acc+1)*10*10 ^ r.length:=by rw[Nat.mul_assoc,Nat.mul_comm (10 ^ r.length) 10]
  show spell (acc*10+(c.toNat-48)) r<_
  omega
theorem Nc:∀(l:List UInt8) (acc:Nat),acc≤spell acc l
 |[],_=>aJ _
 |c::r,acc=>Nat.le_trans (by omega) (Nc r (acc*10+(c.toNat-48)))
theorem FH:∀(l:List UInt8) (acc:Nat),l.all fC=true→spell acc l<1000000000000000000→Lib.parseUint10 acc l=.ok (spell acc l)
 |[],acc,_,_=>rfl
 |c::r,acc,h,hb=>by
  rw[List.all_cons,Bool.and_eq_true]at h;have h1:=kV.1 h.1;have h2:=Nc r (acc*10+(c.toNat-48));have hb':spell (acc*10+(c.toNat-48)) r<1000000000000000000:=hb;unfold Lib.parseUint10;rw[if_pos h1,if_neg (by omega),if_neg (by omega)];exact FH r _ h.2 hb
theorem vH{l:List UInt8}(h:Oa l=true):l.all fC=true∧l≠[]:=by
 cases l with
 |nil=>cases h
 |cons c r=>
  rw[Bz,Bool.and_eq_true]at h;exact⟨h.1,by simp⟩
theorem Az{u:Nat}(h:u<10):(UInt8.ofNat (48+u)).toNat=48+u:=by
 rw[UInt8.toNat_ofNat'];omega
theorem LP{c:UInt8}(h:fC c=true):UInt8.ofNat (48+(c.toNat-48))=c:=by
 have:=kV.1 h;rw[show 48+(c.toNat-48)=c.toNat by omega];simp
theorem aaU(u:Nat):∃c r,Lib.decDigits u=c::r∧(c::r).all fC=true∧(c.toNat=48→u=0)∧(u<10↔r= []):=by
 induction u using Nat.strongRecOn with
 |ind u ih=>
  by_cases h:u<10
  ·refine⟨UInt8.ofNat (48+u),[],by rw[Lib.decDigits,dif_pos h],?_,fun hc=>?_,by simp[h]⟩
   ·rw[List.all_cons,kV.2 (by rw[Az h];omega)];rfl
   ·rw[Az h]at hc;omega
  ·obtain⟨c,r,h1,h2,h3,h4⟩:=ih (u / 10) (by omega);refine⟨c,r++ [UInt8.ofNat (48+u%10)],by rw[Lib.decDigits,dif_neg h,h1];rfl,?_,fun hc=>?_,by simp[h]⟩
   ·rw[←List.cons_append,List.all_append,h2,List.all_cons,kV.2 (by rw[Az (by omega)];omega)];rfl
   ·have:=h3 hc;omega
theorem afd(u:Nat):Oa (Lib.decDigits u)=true:=by
 obtain⟨c,r,h1,h2,h3,h4⟩:=aaU u;rw[h1,Bz,h2,Bool.true_and,Bool.or_eq_true]
 by_cases hc:c.toNat=48
 ·left;have:=h3 hc;rw[h4.1 (by omega)];rfl
 ·right;simp[hc]
theorem afc{u:Nat}(h:u≤999999):(Lib.decDigits u).length≤6:=by
 have step:∀(k u:Nat),u<10 ^ (k+1)→(Lib.decDigits u).length≤k+1:=by
  intro k
  induction k with
  |zero=>intro u hu;rw[Lib.decDigits,dif_pos (by simpa using hu)];simp
  |succ k ih=>
   intro u hu
   by_cases h10:u<10
   ·rw[Lib.decDigits,dif_pos h10];simp
   ·rw[Lib.decDigits,dif_neg h10,List.length_append];have:=ih (u / 10) (by rw[Nat.pow_succ]at hu;exact Nat.div_lt_of_lt_mul (by omega));simp only[List.length_cons,List.length_nil];omega
 exact step 5 u (by omega)
theorem afT{α:Type}{l:List α}(h:l≠[]):∃m c,l=m++ [c]:=⟨l.dropLast,l.getLast h,(List.dropLast_concat_getLast h).symm⟩
theorem O5:∀(n:Nat) (l:List UInt8),l.length=n→Oa l=true→Lib.decDigits (spell 0 l)=l∧(1<l.length→1≤spell 0 l)
 |0,l,hn,h=>by rw[List.length_eq_zero_iff.1 hn]at h;cases h
 |n+1,l,hn,h=>by
  obtain⟨hd,hne⟩:=vH h;obtain⟨m,c,rfl⟩:=afT hne;rw[List.all_append,Bool.and_eq_true]at hd;have hc:fC c=true:=by have:=hd.2;simpa using this
  have hc2:=kV.1 hc;rw[List.length_append,List.length_singleton]at hn;rw[D8];cases m with
  |nil=>
   refine⟨?_,fun h1=>by simp at h1⟩
   show Lib.decDigits (0*10+(c.toNat-48))= [c]
   rw[Nat.zero_mul,Nat.zero_add,Lib.decDigits,dif_pos (by omega),LP hc]
  |cons a r=>
   have ha:¬a.toNat=48:=by
    intro e;simp[Oa,e]at h
   have hm:Oa (a::r)=true:=by
    rw[Bz,hd.1];simp[ha]
   obtain⟨i1,i2⟩:=O5 n (a::r) (by omega) hm;have hv:1≤spell 0 (a::r):=by
    have h1:=Nc r (0*10+(a.toNat-48));have h2:=kV.1 (show fC a=true by have:=hd.1;rw[List.all_cons,Bool.and_eq_true]at this;exact this.1)
    show 1≤spell (0*10+(a.toNat-48)) r
    omega
   refine⟨?_,fun _=>by omega⟩;rw[Lib.decDigits,dif_neg (by omega),show(spell 0 (a::r)*10+(c.toNat-48)) / 10=spell 0 (a::r)by omega,show(spell 0 (a::r)*10+(c.toNat-48))%10=c.toNat-48 by omega,i1,LP hc]
theorem Vh{l:List UInt8}(h:Oa l=true)(hl:l.length≤6):Lib.atoiAll l=.ok (spell 0 l:Int)∧spell 0 l≤999999∧Lib.itoa (spell 0 l:Int)=l:=by
 obtain⟨hd,hne⟩:=vH h;have h1:=Nh l 0 hd;have h2:10 ^ l.length≤10 ^ 6:=Nat.pow_le_pow_right (by decide) hl;have h3:(10:Nat) ^ 6=1000000:=by decide
 have h4:spell 0 l≤999999:=by omega
 refine⟨?_,h4,by rw[Lib.itoa_nonneg];exact(O5 _ l rfl h).1⟩;cases l with
 |nil=>exact absurd rfl hne
 |cons c r=>
  have hc:=kV.1 (show fC c=true by rw[List.all_cons,Bool.and_eq_true]at hd;exact hd.1);rw[Lib.atoiAll_plain c r (by omega) (by omega)];unfold Lib.parseMag;rw[if_neg (by simp),FH _ 0 hd (by omega)];unfold Lib.signless;simp only[];rw[if_neg (by omega)]
theorem aef{v:Int}(h0:0≤v)(h1:v≤999999):Oa (Lib.itoa v)=true∧(Lib.itoa v).length≤6:=by
 obtain⟨u,rfl⟩:∃u:Nat,v=u:=⟨v.toNat,by omega⟩;rw[Lib.itoa_nonneg];exact⟨afd u,afc (by omega)⟩
theorem PY(s:ByteArray):jC s=true↔∃v,Lib.atoiAll s.data.toList=.ok v∧0≤v∧v≤999999∧Lib.itoa v=s.data.toList:=by
 unfold jC;rw[Bool.and_eq_true,decide_eq_true_eq];constructor
 ·rintro⟨hl,h⟩;obtain⟨h1,h2,h3⟩:=Vh h hl;exact⟨_,h1,by omega,by omega,h3⟩
 ·rintro⟨v,_,h0,h1,h2⟩;obtain⟨h3,h4⟩:=aef h0 h1;rw[h2]at h3 h4;exact⟨h4,h3⟩
theorem abw{s:ByteArray}(h:∀v,Lib.atoiAll s.data.toList≠ .ok v):jC s=false:=by
 rw[Bool.eq_false_iff];intro e;obtain⟨v,hv,_⟩:=(PY s).1 e;exact h v hv
theorem aee{s:ByteArray}{v:Int}(h:Lib.atoiAll s.data.toList=.ok v):jC s=(decide (0≤v)&&(decide (v≤999999)&&decide (Lib.itoa v=s.data.toList))):=by
 rw[Bool.eq_iff_iff,PY];simp only[Bool.and_eq_true,decide_eq_true_eq];constructor
 ·rintro⟨u,h1,h2,h3,h4⟩;rw[h]at h1;injection h1 with h1
  subst h1;exact⟨h2,h3,h4⟩
 ·rintro⟨h2,h3,h4⟩;exact⟨v,h,h2,h3,h4⟩
def yH:List UInt8:= [61,40,41,91,93,44,43,46,58,60,62]
def rY(s:ByteArray):Bool:=match s.data.toList with
 |[c]=>yH.contains c
 |_=>false
def sJ(t:Token):Bool:=if t.kind=1 then oH t.text else if t.kind=2 then jC t.text else if t.kind=3 then jq t.text else rY t.text
def lV(t:Token):Int:=if t.kind<1∨4<t.kind then 3 else if sJ t=true then 0 else 4
def vO(l:List Token):Int:=if 200<l.length then 1 else dL lV l
def lit(l:List UInt8):ByteArray:=⟨l.toArray⟩
theorem jT(l:List UInt8):(lit l).size=l.length:=by unfold lit;rw[mW,wL]
def Kz(n:Int):ByteArray:=⟨(Lib.itoa n).toArray⟩
section
variable {n:Nat} {k v:Int} {o nm s:ByteArray}
theorem yB{s:ByteArray}(h:aX s=true):s.size≤8:=by
 unfold aX oH at h;simp only[Bool.and_eq_true]at h;obtain⟨h,_⟩:=h;split at h
 ·cases h
 ·simp only[Bool.and_eq_true,decide_eq_true_eq]at h;exact h.1
theorem Oe{s:ByteArray}(h:jq s=true):s.size≤20:=by
 unfold jq at h;simp only[Bool.and_eq_true,decide_eq_true_eq]at h;first|exact h.1|exact h.2
theorem ac6{α:Type}{g:α→Int}:∀ {l:List α},dL g l=0→∀x∈l,g x=0:=fun h x hx=>iZ h x hx
theorem Us{args:List Ex}(h:iE (n+1) (.mk k v o s args)=0):args.length≤8∧(∀a∈args,iE n a=0)∧
  ((k=1∧0≤v∧v≤999999∧args.length=0)∨(k=2∧s.size≤20∧args.length=0)∨(k=3∧s.size≤8∧args.length=0)∨(k=4∧s.size≤8∧o.size≤8)∨(k=5∧args.length=2)∨(k=6∧1≤args.length)∨(k=7∧args.length=2)):=by
 unfold iE at h;split at h
 ·cases h
 ·next hk=>
  split at h
  ·cases h
  ·next h8=>
   split at h
   ·cases h
   ·split at h
    ·cases h
    ·next ho=>
     split at h
     ·cases h
     ·next hn=>
      refine⟨by omega,ac6 h,?_⟩;have hok:wW k o s args.length=true:=by simpa using ho
      unfold wW at hok;split at hok
      ·next h1=>simp only[Bool.and_eq_true,decide_eq_true_eq]at hok;exact .inl ⟨h1,by omega,by omega,hok.2⟩
      ·split at hok
       ·next h1=>simp only[Bool.and_eq_true,decide_eq_true_eq]at hok;exact .inr (.inl ⟨h1,Oe hok.1,hok.2⟩)
       ·split at hok
        ·next h1=>simp only[Bool.and_eq_true,decide_eq_true_eq]at hok;exact .inr (.inr (.inl ⟨h1,yB hok.1,hok.2⟩))
        ·split at hok
         ·next h1=>
          simp only[Bool.and_eq_true,Bool.or_eq_true,decide_eq_true_eq]at hok;exact .inr (.inr (.inr (.inl ⟨h1,yB hok.1,hok.2.elim (fun h=>by omega) yB⟩)))
         ·split at hok
          ·next h1=>simp only[Bool.and_eq_true,decide_eq_true_eq]at hok;exact .inr (.inr (.inr (.inr (.inr (.inl ⟨h1,hok.2⟩)))))
          ·next h1 h2 h3 h4 h6=>
           simp only[Bool.and_eq_true,decide_eq_true_eq]at hok;have:k=5∨k=7:=by omega
           rcases this with h5|h7
           ·exact .inr (.inr (.inr (.inr (.inl ⟨h5,hok.2⟩))))
           ·exact .inr (.inr (.inr (.inr (.inr (.inr ⟨h7,hok.2⟩)))))
end
open Go.Shelf
def Pow(w:World):Prop:=Lib.TabIs prog w "internal/strconv.uint64pow10" .u64 Lib.pow10Tab
theorem Hy:prog.globalNamed "internal/strconv.uint64pow10" =some 4:=by kernel_rfl
theorem Pow.lt{w:World}(h:Pow w):4<w.heap.size:=by
 have hc:=h.cell Hy 0 (by decide);exact World.block_lt_of_cell? w _ hc
theorem Pow.later{w w':World}(h:Pow w)(hb:Below w.heap.size w w'):Pow w':=by
 unfold Pow Lib.TabIs at h⊢;rw[←h];unfold World.var?;have hlt:=Pow.lt (w:=w) h;simp only[Hy];have:=hb.block _ hlt;simp[this]
set_option maxRecDepth 100000 in
theorem adZ(v:Int)(w:World)(h0:0≤v)(h1:v≤999999)(hp:Pow w):
  Calls prog 78 #[.int .i64 v] w fun e w'=>e=.returned (.string (Kz v))∧Below w.heap.size w w':=
 (Tryz.strconv_Itoa v (by omega) (by omega) w hp).mono fun e w' ⟨he,k,os,hw⟩=>⟨he,by
  subst hw;exact⟨rfl,rfl,rfl,by simp[Sort.grow],fun j hj=>Sort.heap_grow_old _ _ hj⟩⟩
theorem ZH{w:World}{F:aV}{k v:Int}{o s:ByteArray}{args:List Ex}{A:Option Addr}{n c:Nat}{cs:List Value}(hcs:cs= [.int .i64 k,.int .i64 v,.string o,.string s,.slice A n c])(h:dN w F cs (.mk k v o s args)):
  SliceOf dN 5 72 w F (.slice A n c) args∧okS o∧okS s∧I64 v∧I64 k:=by
 subst hcs;obtain⟨m,h⟩:=h;cases m with
 |zero=>exact h.elim
 |succ m=>
  obtain⟨av,he,hk,hv,ho,hs,hav⟩:=h;simp only[List.cons.injEq,and_true]at he;obtain⟨_,_,_,_,rfl⟩:=he;refine⟨?_,ho,hs,hv,hk⟩;obtain⟨A',cap,e,h1,h2,h3,h3',h4⟩:=hav;refine⟨A',cap,e,h1,h2,h3,h3',fun hl=>?_⟩;obtain⟨b,off,hA,hb,hx⟩:=h4 hl;exact⟨b,off,hA,hb,fun i x hi=>by obtain⟨ds,hc,hr,hcell⟩:=hx i x hi;exact⟨ds,hc,⟨m,hr⟩,hcell⟩⟩
theorem agj{s:ByteArray}{k:Nat}{b:UInt8}(hk:k<s.size)(h:s.data.toList[k]? =some b):s[k]=b:=by
 have:=gY s k hk;rw[h]at this;exact(Option.some.inj this).symm
theorem CY(s:ByteArray)(i j:Nat):(s.extract i j).data.toList=(s.data.toList.drop i).take (j-i):=by
 simp[List.extract_eq_take_drop]
theorem aaY{s t:ByteArray}(h:s.data.toList=91::(t.data.toList++ [93]))(ht:0<t.size):elemOf s=some t:=by
 have hsz:s.size=t.size+2:=by rw[mW,h,mW];simp
 unfold elemOf;rw[dif_pos (by omega)];have h0:s[0]=91:=agj (by omega) (by rw[h];rfl);have h1:s[s.size-1]=93:=agj (by omega) (by
  rw[h,hsz,show t.size+2-1=t.size+1 by omega,List.getElem?_cons_succ,List.getElem?_append_right (by rw[mW];exact aJ _),←mW,Nat.sub_self];rfl)
 rw[if_pos ⟨by rw[h0];rfl,by rw[h1];rfl⟩];refine congrArg some (zK ?_);rw[CY,h,hsz,show t.size+2-1-1=t.size by omega,List.drop_succ_cons,List.drop_zero,List.take_append_of_le_length (by rw[mW];exact aJ _),mW,List.take_length]
theorem Ar(s:ByteArray):(listOf s).data.toList=91::(s.data.toList++ [93]):=by simp[listOf]
theorem Um{s:ByteArray}(h:0<s.size):elemOf (listOf s)=some s:=aaY (Ar s) h
theorem Vk(s:ByteArray):gG (listOf s)=gG s:=by
 unfold gG;rw[Ar];simp[eG]
def wM:Nat→ByteArray
 |0=>⟨#[105,110,116]⟩
 |1=>⟨#[116,101,120,116]⟩
 |_=>⟨#[42]⟩
def xu:Nat→Nat→ByteArray
 |0,k=>wM k
 |n+1,k=>listOf (xu n k)
theorem J9(k:Nat):∃l b,(wM k).data.toList=l++ [b]∧b≠93∧b≠120∧(wM k).size≤4∧0<(wM k).size:=by
 match k with
 |0=>exact⟨[105,110],116,rfl,by decide,by decide,by decide,by decide⟩
 |1=>exact⟨[116,101,120],116,rfl,by decide,by decide,by decide,by decide⟩
 |_+2=>exact⟨[],42,rfl,by decide,by decide,(by decide:(⟨#[42]⟩:ByteArray).size≤4),(by decide:0<(⟨#[42]⟩:ByteArray).size)⟩
theorem YC(n k:Nat):(⟨(Lib.repeatL [91] n).toArray⟩++wM k++⟨(Lib.repeatL [93] n).toArray⟩:ByteArray)=xu n k:=by
 refine zK ?_;rw[J7,J7,wL,wL];have h93:∀n,Lib.repeatL [93] n++ [93]=Lib.repeatL ([93]:List UInt8) (n+1):=by
  intro n
  induction n with
  |zero=>rfl
  |succ n ih=>show[93]++Lib.repeatL [93] n++ [93]= [93]++Lib.repeatL [93] (n+1);rw[List.append_assoc,ih]
 induction n with
 |zero=>simp[Lib.repeatL,xu]
 |succ n ih=>
  show _=(listOf (xu n k)).data.toList
  rw[Ar,←ih,←h93];simp[Lib.repeatL]
theorem gJ{m:Module}(h:dD m=0):m.uses.length+m.types.length+m.funcs.length≤24:=by
 unfold dD at h
 by_cases ng:24<m.uses.length+m.types.length+m.funcs.length
 ·rw[if_pos ng]at h;cases h
 ·omega
end Go.Proofs.YtjaladhdnbhliaaGreatDoor
