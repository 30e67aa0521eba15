/- Parts. -/
import Derived.Test.YtjaladhdnbhliaaGreatDoorQBytes
set_option maxHeartbeats 4000000
set_option maxRecDepth 100000
namespace Go.Proofs.YtjaladhdnbhliaaGreatDoor
open Go.Proofs.Tryz
open Go.RowKit
theorem aaZ{s t:ByteArray}(h:elemOf s=some t):s.data.toList=91::(t.data.toList++ [93]):=by
 unfold elemOf at h;split at h
 ·next h3=>
  split at h
  ·next h4=>
   injection h with h
   subst h;have h0:s.data.toList[0]? =some 91:=by rw[gY s 0 (by omega)];exact congrArg some (UInt8.toNat_inj.1 h4.1)
   have h1:s.data.toList[s.size-1]? =some 93:=by rw[gY s (s.size-1) (by omega)];exact congrArg some (UInt8.toNat_inj.1 h4.2)
   have hl:s.data.toList.length=s.size:=tH s;have he:(s.extract 1 (s.size-1)).data.toList=(s.data.toList.drop 1).take (s.size-1-1):=by simp[List.extract_eq_take_drop]
   rw[he];refine List.ext_getElem? fun i=>?_
   cases i with
   |zero=>rw[h0];rfl
   |succ i=>
    rw[List.getElem?_cons_succ]
    by_cases hi:i<s.size-2
    ·rw[List.getElem?_append_left (by rw[List.length_take,List.length_drop];omega),List.getElem?_take_of_lt (by omega),List.getElem?_drop]
     congr 1;omega
    ·rw[List.getElem?_append_right (by rw[List.length_take,List.length_drop];omega),List.length_take,List.length_drop]
     by_cases hi2:i=s.size-2
     ·subst hi2;rw[show s.size-2+1=s.size-1 by omega,h1,hl,show s.size-2-min (s.size-1-1) (s.size-1)=0 by omega]
      rfl
     ·rw[List.getElem?_eq_none (by omega),List.getElem?_eq_none (by simp;omega)]
  ·cases h
 ·cases h
theorem PN:∀(n:Nat) (p:ByteArray),p.size≤n→∃k,p.data.toList=List.replicate k 91++(strip p).data.toList++List.replicate k 93
 |0,p,h=>by
  have:elemOf p=none:=by
   cases he:elemOf p with
   |none=>rfl
   |some t=>have:=dK he;omega
  exact⟨0,by rw[uU this];simp⟩
 |n+1,p,h=>by
  cases he:elemOf p with
  |none=>exact⟨0,by rw[uU he];simp⟩
  |some t=>
   have hz:=dK he;obtain⟨k,hk⟩:=PN n t (by omega);refine⟨k+1,?_⟩;rw[aaZ he,hk,uV he,List.replicate_succ,List.replicate_succ'];simp
theorem ac2{s:ByteArray}(h:Ib s=true):s.data.toList= [105,110,116]∨s.data.toList= [116,101,120,116]∨s.data.toList= [42]:=by
 unfold Ib at h;simp only[ByteArray.toList_eq,Bool.or_eq_true,beq_iff_eq]at h;exact h
theorem qC{p:ByteArray}(h:aP p=0):p.size≤600∧Ib (strip p)=true:=by
 unfold aP at h;split at h
 ·cases h
 ·split at h
  ·next h1 h2=>exact⟨by omega,h2⟩
  ·cases h
def YT(b:ByteArray)(c:UInt8):List UInt8:=if eG c=true then b.data.toList else[c]
def lU(p b:ByteArray):ByteArray:=⟨(p.data.toList.flatMap (YT b)).toArray⟩
def yF(p b:ByteArray):ByteArray×Int:=
 if aP p=0 then(if gG p=true then(if aP b=0 then(if 600<(lU p b).size then(⟨#[]⟩,1)else(lU p b,0))else(⟨#[]⟩,aP b))else(p,0))else(⟨#[]⟩,aP p)
theorem aan{c:UInt8}(h:c≠42):eG c=false:=by
 unfold eG;rw[decide_eq_false_iff_not];intro e;exact h (UInt8.toNat_inj.1 e)
theorem AL(b:ByteArray):∀l:List UInt8,(∀c∈l,eG c=false)→l.flatMap (YT b)=l
 |[],_=>rfl
 |c::l,h=>by
  rw[List.flatMap_cons,AL b l fun x hx=>h x (List.mem_cons_of_mem _ hx)];unfold YT;rw[h c (List.mem_cons_self ..)]
  rfl
theorem aen(b:ByteArray)(l1 l2:List UInt8)(h1:∀c∈l1,c≠42)(h2:∀c∈l2,c≠42):(l1++42::l2).flatMap (YT b)=l1++b.data.toList++l2:=by
 rw[List.flatMap_append,List.flatMap_cons,AL b l1 fun c hc=>aan (h1 c hc),AL b l2 fun c hc=>aan (h2 c hc)]
 show l1++(b.data.toList++l2)=_
 simp
theorem EU(l2:List UInt8):∀l1:List UInt8,(∀c∈l1,c≠42)→Lib.indexByte (l1++42::l2) 42=l1.length
 |[],_=>by simp[Lib.indexByte]
 |c::l1,h=>by
  have ih:=EU l2 l1 fun x hx=>h x (List.mem_cons_of_mem _ hx)
  have hc:(c==42)=false:=by simpa using h c (List.mem_cons_self ..)
  rw[List.cons_append,Lib.indexByte,hc,ih];have:((l1.length:Int)== -1)=false:=by simp<;>omega
  rw[this];simp
theorem RX(l1 l2 b:List UInt8)(h1:∀c∈l1,c≠42)(h2:∀c∈l2,c≠42):Lib.replace (l1++42::l2) [42] b 1=l1++b++l2:=by
 have hi:Lib.index (l1++42::l2) [42]=(l1.length:Nat):=by rw[Lib.index_one,EU l2 l1 h1]
 have hc:Lib.count (l1++42::l2) [42]=1+Lib.count ((l1++42::l2).drop (l1.length+1)) [42]:=Lib.count_hit (by simp) hi;unfold Lib.replace;split
 ·next h=>have:=beq_iff_eq.1 h;subst this;simp
 ·have hn:Lib.replaceNum (l1++42::l2) [42] 1=1:=by
   unfold Lib.replaceNum;rw[if_neg (by omega)]
   rfl
  rw[hn,Lib.replaceK_hit _ _ 0 _ _ hi];simp[Lib.replaceK,List.drop_append]
theorem RV(k:Nat){c:UInt8}(h:c≠42):∀x∈List.replicate k c,x≠42:=fun x hx=>by rw[List.eq_of_mem_replicate hx];exact h
theorem abo{p:ByteArray}(h:aP p=0)(ho:gG p=true):∃k,p.data.toList=List.replicate k 91++42::List.replicate k 93:=by
 obtain⟨_,hb⟩:=qC h;obtain⟨k,hk⟩:=PN p.size p (aJ _);refine⟨k,?_⟩;rcases ac2 hb with e|e|e
 ·exfalso;unfold gG at ho;rw[hk,e]at ho;simp only[List.any_append,List.any_replicate,Bool.or_eq_true]at ho
  revert ho
  simp[eG]
 ·exfalso;unfold gG at ho;rw[hk,e]at ho;simp only[List.any_append,List.any_replicate,Bool.or_eq_true]at ho
  revert ho
  simp[eG]
 ·rw[hk,e];simp
theorem YV{p:ByteArray}(h:gG p=false)(b:ByteArray):lU p b=p:=by
 unfold lU;rw[AL b p.data.toList fun c hc=>?_];unfold gG at h;rw[List.any_eq_false]at h;simpa using h c hc
theorem Vq{p:ByteArray}(h:aP p=0)(ho:gG p=true)(b:ByteArray):(⟨(Lib.replace p.data.toList [42] b.data.toList 1).toArray⟩:ByteArray)=lU p b:=by
 obtain⟨k,hk⟩:=abo h ho;unfold lU;rw[hk,RX _ _ _ (RV k (by decide)) (RV k (by decide)),aen _ _ _ (RV k (by decide)) (RV k (by decide))]
theorem Ya{p:ByteArray}(h:aP p=0)(ho:gG p=true):Lib.count p.data.toList [42]≤600:=by
 rw[Lib.count_one];refine Nat.le_trans List.count_le_length ?_;have:=(qC h).1;rw[tH p];exact this
section
variable {p b:ByteArray}
theorem Vp(h:aP p≠0):yF p b=(⟨#[]⟩,aP p):=by unfold yF;rw[if_neg h]
theorem IK(h:aP p=0)(ho:gG p=false):yF p b=(p,0):=by unfold yF;rw[if_pos h,if_neg (by simp[ho])]
theorem LY(h:aP p=0)(ho:gG p=true)(hb:aP b≠0):yF p b=(⟨#[]⟩,aP b):=by unfold yF;rw[if_pos h,if_pos ho,if_neg hb]
theorem P8(h:aP p=0)(ho:gG p=true)(hb:aP b=0)(hl:600<(lU p b).size):yF p b=(⟨#[]⟩,1):=by unfold yF;rw[if_pos h,if_pos ho,if_pos hb,if_pos hl]
theorem aai(h:aP p=0)(ho:gG p=true)(hb:aP b=0)(hl:¬600<(lU p b).size):yF p b=(lU p b,0):=by unfold yF;rw[if_pos h,if_pos ho,if_pos hb,if_neg hl]
end
theorem Ag:∀l:List UInt8,decide (0≤Lib.indexByte l 42)=l.any eG
 |[]=>rfl
 |b::l=>by
  have ih:=Ag l;have hge:=Lib.indexByte_ge l 42;unfold Lib.indexByte;rw[List.any_cons,←ih]
  by_cases hb:b=42
  ·subst hb;simp[eG]
  ·have h1:(b==42)=false:=by simp[hb]
   have h2:eG b=false:=by
    unfold eG;rw[decide_eq_false_iff_not];intro e;exact hb (UInt8.toNat_inj.1 e)
   rw[h1,h2]
   by_cases he:Lib.indexByte l 42= -1
   ·simp[he]
   ·have h3:(Lib.indexByte l 42== -1)=false:=by simp[he]
    rw[if_neg (by simp),h3,if_neg (by simp),Bool.false_or,decide_eq_decide];omega
theorem yu(s:ByteArray)(w:World):Calls prog 63 #[.string s] w fun e w'=>e=.returned (.bool (gG s))∧w=w':=by
 have hc:=fun W=>Tryz.strings_Contains_one s 42 W
 rw[Ag]at hc;unfold gG;generalize s.data.toList.any eG=z at hc⊢;have HC:=ah hc;clear hc;go_enter func63,ntmps63;go_wp2_with fail;refine(HC.out _).mono ?_;rintro e w' ⟨rfl,rfl⟩;go_wp2_with fail;go_ret;exact⟨rfl,rfl⟩
open Go.Shelf
theorem put_any(p b:ByteArray)(m:Int)(w:World)(hp:p.size≤140737488355328)(hb:b.size≤140737488355328)(hm:w.cell? ⟨1,0,none⟩=some (.int .i64 m)):
  Calls prog 258 #[.string p,.string b] w fun e w'=>e=.returned (.tuple #[.string (yF p b).1,.int .i64 (yF p b).2])∧Below w.heap.size w w':=by
 have hk1:=dU p w hp;have hk2:=dU b w hb;have hop:=yu p w;have hR1:=fun h=>Vp (p:=p) (b:=b) h
 have hR2:=fun h ho=>IK (p:=p) (b:=b) h ho
 have hR3:=fun h ho hb=>LY (p:=p) (b:=b) h ho hb
 have EO:=fun h ho hb hl=>P8 (p:=p) (b:=b) h ho hb hl
 have ZP:=fun h ho hb hl=>aai (p:=p) (b:=b) h ho hb hl
 have hrep:aP p=0→gG p=true→aP b=0→Calls prog 53 #[.string p,.string ⟨#[42]⟩,.string b,.int .i64 1] w fun e w'=>e=.returned (.string (lU p b))∧Below w.heap.size w w':=fun h ho hb0=>by
  have h1:=(qC h).1;have h2:=(qC hb0).1;have h3:Lib.countB p ⟨#[42]⟩≤600:=Ya h ho;have h4:Lib.countB p ⟨#[42]⟩*b.size≤600*600:=Nat.mul_le_mul h3 h2;have hc:=Tryz.strings_Replace p ⟨#[42]⟩ b 1 m w (by omega) hm (by decide) (by omega);rw[show(⟨(Lib.replace p.data.toList (⟨#[42]⟩:ByteArray).data.toList b.data.toList 1).toArray⟩:ByteArray)=lU p b from Vq h ho b]at hc;exact hc
 generalize yF p b=r at hR1 hR2 hR3 EO ZP⊢;generalize lU p b=T at EO ZP hrep;generalize aP p=z1 at hk1 hR1 hR2 hR3 EO ZP hrep;generalize aP b=z2 at hk2 hR3 EO ZP hrep;generalize gG p=zo at hop hR2 hR3 EO ZP hrep;obtain⟨Ec,XJ,HOP,HR1,HR2,HR3,HR4,Gj,amW⟩:=aF hk1 hk2 hop hR1 hR2 hR3 EO ZP hrep;clear hk1 hk2 hop hR1 hR2 hR3 EO ZP hrep;go_enter func258,ntmps258;go_wp2_with fail;refine Ec.out.mono ?_;rintro e w' ⟨rfl,rfl⟩
 by_cases h1:z1=0
 ·subst h1;go_wp2_with fail;refine HOP.out.mono ?_;rintro e w' ⟨rfl,rfl⟩;cases zo with
  |false=>
   have hr:=HR2.out (by first|rfl|trivial) (by first|rfl|trivial);subst hr;go_wp2_with fail
   go_ret2
   exact⟨rfl,Below.refl _ _⟩
  |true=>
   go_wp2_with fail;refine XJ.out.mono ?_;rintro e w' ⟨rfl,rfl⟩
   by_cases h2:z2=0
   ·subst h2;have hrep:=amW.out (by first|rfl|trivial) (by first|rfl|trivial) (by first|rfl|trivial);have ajE:=ah hrep;clear hrep;go_wp2_with fail;refine ajE.out.mono ?_;rintro e w2 ⟨rfl,hb2⟩
    by_cases hl:600<T.size
    ·have hlz:(600:Int)<(T.size:Int):=by omega
     have hr:=HR4.out (by first|rfl|trivial) (by first|rfl|trivial) (by first|rfl|trivial) hl;subst hr;go_wp2_with fail
     go_ret2
     exact⟨rfl,hb2⟩
    ·have hlz:¬(600:Int)<(T.size:Int):=by omega
     have hr:=Gj.out (by first|rfl|trivial) (by first|rfl|trivial) (by first|rfl|trivial) hl;subst hr;go_wp2_with fail
     go_ret2
     exact⟨rfl,hb2⟩
   ·have h2b:(z2==0)=false:=by simp[h2]
    have hr:=HR3.out (by first|rfl|trivial) (by first|rfl|trivial) h2;subst hr;go_wp2_with fail
    go_ret2
    exact⟨rfl,Below.refl _ _⟩
 ·have h1b:(z1==0)=false:=by simp[h1]
  have hr:=HR1.out h1;subst hr;go_wp2_with fail
  go_ret2
  exact⟨rfl,Below.refl _ _⟩
def qp(p b:ByteArray)(k:Nat):ByteArray:=⟨((p.data.toList.take k).flatMap (YT b)).toArray⟩
theorem YU(p b:ByteArray):qp p b 0=⟨#[]⟩:=rfl
theorem Md{p b:ByteArray}{k:Nat}(hk:k<p.size)(h:eG p[k]=true):qp p b (k+1)=qp p b k++b:=by
 refine zK ?_;rw[J7];unfold qp;rw[wL,wL,List.take_add_one,gY p k hk,List.flatMap_append];simp[YT,h]
theorem LZ{p b:ByteArray}{k:Nat}(hk:k<p.size)(h:eG p[k]=false):qp p b (k+1)=qp p b k++p.extract k (k+1):=by
 refine zK ?_;rw[J7];have he:(p.extract k (k+1)).data.toList= [p[k]]:=by
  have hl:p.data.toList.length=p.size:=tH p;have:(p.extract k (k+1)).data.toList=(p.data.toList.drop k).take (k+1-k):=by simp[List.extract_eq_take_drop]
  rw[this,show k+1-k=1 by omega];refine List.ext_getElem? fun i=>?_
  cases i with
  |zero=>rw[List.getElem?_take_of_lt (by omega),List.getElem?_drop,gY p (k+0) (by omega)];rfl
  |succ i=>rw[List.getElem?_eq_none (by rw[List.length_take];omega)];rfl
 rw[he];unfold qp;rw[wL,wL,List.take_add_one,gY p k hk,List.flatMap_append];simp[YT,h]
theorem abG(p b:ByteArray):qp p b p.size=lU p b:=by
 unfold qp lU;rw[←tH p,List.take_length]
theorem Mc(p b:ByteArray):∀k,(qp p b k).size≤k*(b.size+1)
 |0=>by rw[YU];exact Nat.zero_le _
 |k+1=>by
  have ih:=Mc p b k;rw[Nat.succ_mul]
  by_cases hk:k<p.size
  ·cases h:eG p[k]with
   |true=>rw[Md hk h,vC];omega
   |false=>
    rw[LZ hk h,vC,ByteArray.size_extract];omega
  ·have:qp p b (k+1)=qp p b k:=by
    unfold qp;have hl:p.data.toList.length=p.size:=tH p;rw[List.take_of_length_le (by omega),List.take_of_length_le (by omega)]
   rw[this];omega
theorem abE(p b:ByteArray)(w:World)(hp:p.size≤140737488355328)(hb:b.size≤140737488355328):
  Calls prog 232 #[.string p,.string b] w fun e w'=>e=.returned (.tuple #[.string (yF p b).1,.int .i64 (yF p b).2])∧Below w.heap.size w w':=by
 have hk1:=dZ p w hp;have hk2:=dZ b w hb;have hop:=Dq p w hp;have hR1:=fun h=>Vp (p:=p) (b:=b) h
 have hR2:=fun h ho=>IK (p:=p) (b:=b) h ho
 have hR3:=fun h ho hb=>LY (p:=p) (b:=b) h ho hb
 have EO:=fun h ho hb hl=>P8 (p:=p) (b:=b) h ho hb hl
 have ZP:=fun h ho hb hl=>aai (p:=p) (b:=b) h ho hb hl
 have hcl:=fun(h:gG p=false)=>YV h b
 have hps:=fun h=>(qC (p:=p) h).1
 have hbs:=fun h=>(qC (p:=b) h).1
 have hno:=fun(h:gG p=false) (k:Nat) (hk:k<p.size)=>(show eG p[k]=false by
  unfold gG at h;rw[List.any_eq_false]at h;simpa using h _ (List.mem_of_getElem? (gY p k hk)))
 generalize yF p b=r at hR1 hR2 hR3 EO ZP⊢;generalize aP p=z1 at hk1 hR1 hR2 hR3 EO ZP hps;generalize aP b=z2 at hk2 hR3 EO ZP hbs;generalize gG p=zo at hop hR2 hR3 EO ZP hcl hno;have hloop:z1=0→(zo=false∨z2=0)→((600<(lU p b).size→r=(⟨#[]⟩,1))∧(¬600<(lU p b).size→r=(lU p b,0))):=fun h1 h2=>by
  cases zo with
  |false=>
   have hr:=hR2 h1 rfl;have hc:=hcl rfl;rw[hc];exact⟨fun h=>absurd (hps h1) (by omega),fun _=>hr⟩
  |true=>
   have h3:z2=0:=h2.elim (fun h=>by cases h) id;exact⟨fun h=>EO h1 rfl h3 h,fun h=>ZP h1 rfl h3 h⟩
 obtain⟨Ec,XJ,HOP,HR1,HR3,af2,HPS,HBS,HNO⟩:=aF hk1 hk2 hop hR1 hR3 hloop hps hbs hno;clear hk1 hk2 hop hR1 hR3 hloop hps hbs hno;clear hR2 EO ZP hcl;go_enter func232,ntmps232;rcases Classical.em (z1=0)with h1|h1
 ·rcases(show(zo=true∧z2≠0)∨(zo=false∨(zo=true∧z2=0))by cases zo<;>(by_cases h:z2=0<;>simp[h]))with ⟨h2,h3⟩|hgo
  ·subst h1;subst h2;have h3b:(z2==0)=false:=by simp[h3]
   have hr:=HR3.out (by first|rfl|trivial) (by first|rfl|trivial) h3;subst hr;go_wp2_with(first
    |(go_at_call 165;(with_reducible refine Ec.out.mono ?_);rintro e w' ⟨rfl,rfl⟩)
    |(go_at_call 165;(with_reducible refine XJ.out.mono ?_);rintro e w' ⟨rfl,rfl⟩)
    |(go_at_call 166;(with_reducible refine HOP.out.mono ?_);rintro e w' ⟨rfl,rfl⟩))
   go_ret2
   exact⟨rfl,Below.refl _ _⟩
  ·have hlp:=af2.out h1 (hgo.imp id And.right);have hp6:=HPS.out h1;have hbd:∀k,k≤p.size→(qp p b k).size≤400000∧((∃i,∃h:i<p.size,eG p[i]=true)→b.size≤600):=fun k hk=>by
    rcases hgo with hz|⟨hz,hz2⟩
    ·refine⟨?_,fun⟨i,hi,h⟩=>by rw[HNO.out hz i hi]at h;cases h⟩;have hn:∀c∈p.data.toList.take k,eG c=false:=fun c hc=>by
      obtain⟨i,hi,rfl⟩:=List.getElem_of_mem (List.mem_of_mem_take hc);have hi':i<p.size:=by rw[←tH p];exact hi
      exact HNO.out hz i hi'
     unfold qp;rw[AL b _ hn,mW,wL,List.length_take];omega
    ·have h6:=HBS.out hz2;refine⟨?_,fun _=>h6⟩;have h7:=Mc p b k;have h8:k*(b.size+1)≤600*601:=Nat.mul_le_mul (by omega) (by omega);omega
   have hend:=abG p b;generalize lU p b=T at hlp hend;obtain⟨HLP,XB,agX⟩:=ak hlp hbd hend;clear hlp hbd hend;clear HR1 HR3 af2 HPS HBS HNO;subst h1;rcases hgo with rfl|⟨rfl,rfl⟩
   all_goals
    go_wp2_with(first
     |(go_at_call 165;(with_reducible refine Ec.out.mono ?_);rintro e w' ⟨rfl,rfl⟩)
     |(go_at_call 165;(with_reducible refine XJ.out.mono ?_);rintro e w' ⟨rfl,rfl⟩)
     |(go_at_call 166;(with_reducible refine HOP.out.mono ?_);rintro e w' ⟨rfl,rfl⟩))
    go_loopg [7,8] p.size (fun gg s7 s8 wr=>∃kk:Nat,kk≤p.size∧p.size-kk≤gg∧s8=.int .i64 kk∧s7=.string (qp p b kk)∧wr=w)
    case atStart=>exact⟨0,Nat.zero_le _,by omega,rfl,rfl,rfl⟩
    case round=>
     obtain⟨kk,hkk,hg,rfl,rfl,rfl⟩:=hrel
     by_cases hlt:kk<p.size
     ·have hltz:(kk:Int)<(p.size:Int):=by omega
      have hb2:(p[kk].toNat:Int)<256:=by have:=p[kk].toNat_lt;omega
      have hs1:=(XB.out kk hkk).1;cases hq:eG p[kk]with
      |true=>
       have hs:=Md (b:=b) hlt hq;have hb6:=(XB.out kk hkk).2 ⟨kk,hlt,hq⟩;have hq2:(p[kk].toNat:Int)=42:=by(simp[eG]at hq;omega)
       have hq3:((p[kk].toNat:Int)==42)=true:=by simp[hq2]
       obtain⟨Q,hQ⟩:∃z,qp p b kk=z:=⟨_,rfl⟩;rw[hQ]at hs hs1⊢;obtain⟨HS,HQ⟩:=aj hs hQ;clear hs hQ;clear hq;go_wp2_with fail;go_roundg (p.size-(kk+1))
       case measure=>omega
       case rel=>exact⟨kk+1,by omega,by omega,by go_num,by rw[HS.out],rfl⟩
      |false=>
       have hs:=LZ (b:=b) hlt hq;have hq2:¬(p[kk].toNat:Int)=42:=by(simp[eG]at hq;omega)
       have hq3:((p[kk].toNat:Int)==42)=false:=by simp[hq2]
       obtain⟨Q,hQ⟩:∃z,qp p b kk=z:=⟨_,rfl⟩;rw[hQ]at hs hs1⊢;have hxs:(p.extract kk (kk+1)).size=1:=by rw[ByteArray.size_extract];omega
       obtain⟨HS,HQ⟩:=aj hs hQ;clear hs hQ;clear hq;go_wp2_with fail;go_roundg (p.size-(kk+1))
       case measure=>omega
       case rel=>exact⟨kk+1,by omega,by omega,by go_num,by rw[HS.out],rfl⟩
     ·have hltz:¬(kk:Int)<(p.size:Int):=by omega
      obtain rfl:kk=p.size:=by omega
      rw[agX.out]
      by_cases hl:600<T.size
      ·have hlz:(600:Int)<(T.size:Int):=by omega
       have hr:=HLP.out.1 hl;subst hr;go_wp2_with fail
       go_ret2
       exact⟨rfl,Below.refl _ _⟩
      ·have hlz:¬(600:Int)<(T.size:Int):=by omega
       have hr:=HLP.out.2 hl;subst hr;go_wp2_with fail
       go_ret2
       exact⟨rfl,Below.refl _ _⟩
 ·have h1b:(z1==0)=false:=by simp[h1]
  have hr:=HR1.out h1;subst hr;go_wp2_with(go_at_call 165;(with_reducible refine Ec.out.mono ?_);rintro e w' ⟨rfl,rfl⟩)
  go_ret2
  exact⟨rfl,Below.refl _ _⟩
def FV(s:ByteArray):Bool:=s.toList== [42]
def jU(p i b:ByteArray):Int:=if aP p=0 then(if aP i=0 then(if b.size=0 then 0 else aP b)else aP i)else aP p
def AA:Nat→ByteArray→ByteArray→ByteArray×ByteArray
 |0,p,i=>(p,i)
 |n+1,p,i=>match elemOf p,elemOf i with
  |some q,some j=>AA n q j
  |_,_=>(p,i)
def peel(p i:ByteArray):ByteArray×ByteArray:=AA p.size p i
def kM(p i b:ByteArray):ByteArray×Int:=
 if FV p then(if b.toList.isEmpty||b.toList==i.toList then(i,0)else(⟨#[]⟩,8))else if p.toList==i.toList then(b,0)else(⟨#[]⟩,8)
def iy(p i b:ByteArray):ByteArray×Int:=if jU p i b=0 then kM (peel p i).1 (peel p i).2 b else(⟨#[]⟩,jU p i b)
theorem LU:∀(n m:Nat) (p i:ByteArray),p.size≤n→p.size≤m→AA n p i=AA m p i
 |0,0,_,_,_,_=>rfl
 |0,m+1,p,i,h,_=>by
  have:elemOf p=none:=by
   cases he:elemOf p with
   |none=>rfl
   |some t=>have:=dK he;omega
  simp[AA,this]
 |n+1,0,p,i,_,h=>by
  have:elemOf p=none:=by
   cases he:elemOf p with
   |none=>rfl
   |some t=>have:=dK he;omega
  simp[AA,this]
 |n+1,m+1,p,i,h1,h2=>by
  unfold AA;cases he:elemOf p with
  |none=>rfl
  |some t=>
   cases hf:elemOf i with
   |none=>rfl
   |some j=>
    have:=dK he;exact LU n m t j (by omega) (by omega)
theorem Hw{p i q j:ByteArray}(h:elemOf p=some q)(h':elemOf i=some j):peel p i=peel q j:=by
 have hz:=dK h;unfold peel;obtain⟨k,hk⟩:∃k,p.size=k+1:=⟨p.size-1,by omega⟩;rw[hk]
 show(match elemOf p,elemOf i with|some q,some j=>AA k q j|_,_=>(p,i))=_
 rw[h,h'];exact LU _ _ _ _ (by omega) (by omega)
theorem tZ{p i:ByteArray}(h:elemOf p=none∨elemOf i=none):peel p i=(p,i):=by
 unfold peel;cases hk:p.size with
 |zero=>rfl
 |succ k=>
  unfold AA;rcases h with h|h
  ·rw[h]
  ·rw[h];cases elemOf p<;>rfl
theorem abv(p i b:ByteArray)(w:World)(hp:p.size≤140737488355328)(_hi:i.size≤140737488355328)(_hb:b.size≤140737488355328)(hz:aP p≠0):
  Calls prog 257 #[.string p,.string i,.string b] w fun e w'=>e=.returned (.tuple #[.string ⟨#[]⟩,.int .i64 (aP p)])∧Below w.heap.size w w':=by
 have hk:=fun W=>dU p W hp
 generalize aP p=z at hk hz⊢;have HK:=Lib.hid hk;clear hk;have h0n:(z !=0)=true:=by simp[hz]
 go_enter func257,ntmps257;go_wp2_with fail;refine wp_loop_rounds 3 ?_;rw[rounds_succ];go_wp2_with fail;refine(HK.out _).mono ?_;rintro e w' ⟨rfl,rfl⟩;go_wp2_with fail
 go_ret2
 exact⟨rfl,(Below.refl _ _).alloc (aJ _) _⟩
theorem ad9(p i b:ByteArray)(w:World)(hp:p.size≤140737488355328)(hi:i.size≤140737488355328)(_hb:b.size≤140737488355328)(h0:aP p=0)(hz:aP i≠0):
  Calls prog 257 #[.string p,.string i,.string b] w fun e w'=>e=.returned (.tuple #[.string ⟨#[]⟩,.int .i64 (aP i)])∧Below w.heap.size w w':=by
 have hk0:=fun W=>dU p W hp
 rw[h0]at hk0;have hk:=fun W=>dU i W hi
 generalize aP i=z at hk hz⊢;have HK:=Lib.hid hk;clear hk;have ND:=Lib.hid hk0;clear hk0 h0;have h0n:(z !=0)=true:=by simp[hz]
 go_enter func257,ntmps257;go_wp2_with fail;refine wp_loop_rounds 3 ?_;rw[rounds_succ];go_wp2_with fail;refine(ND.out _).mono ?_;rintro e w' ⟨rfl,rfl⟩;go_wp2_with fail;rw[rounds_succ];go_wp2_with fail;refine(HK.out _).mono ?_;rintro e w' ⟨rfl,rfl⟩;go_wp2_with fail
 go_ret2
 exact⟨rfl,(Below.refl _ _).alloc (aJ _) _⟩
theorem U9(p i b:ByteArray)(w:World)(hp:p.size≤140737488355328)(hi:i.size≤140737488355328)(hb:b.size≤140737488355328)(h0:aP p=0)(h1:aP i=0)(hbz:b.size≠0)(hz:aP b≠0):
  Calls prog 257 #[.string p,.string i,.string b] w fun e w'=>e=.returned (.tuple #[.string ⟨#[]⟩,.int .i64 (aP b)])∧Below w.heap.size w w':=by
 have hk0:=fun W=>dU p W hp
 rw[h0]at hk0;have hk1:=fun W=>dU i W hi
 rw[h1]at hk1;have hk:=fun W=>dU b W hb
 generalize aP b=z at hk hz⊢;have HK:=Lib.hid hk;clear hk;have ND:=Lib.hid hk0;clear hk0 h0;have Ec:=Lib.hid hk1;clear hk1 h1;have h0n:(z !=0)=true:=by simp[hz]
 have hbe:b.toList.isEmpty=false:=by rw[bC];simp[hbz]
 go_enter func257,ntmps257;go_wp2_with fail;refine wp_loop_rounds 3 ?_;rw[rounds_succ];go_wp2_with fail;refine(ND.out _).mono ?_;rintro e w' ⟨rfl,rfl⟩;go_wp2_with fail;rw[rounds_succ];go_wp2_with fail;refine(Ec.out _).mono ?_;rintro e w' ⟨rfl,rfl⟩;go_wp2_with fail;rw[rounds_succ];go_wp2_with fail;refine(HK.out _).mono ?_;rintro e w' ⟨rfl,rfl⟩;go_wp2_with fail
 go_ret2
 exact⟨rfl,(Below.refl _ _).alloc (aJ _) _⟩
theorem Va(p i b:ByteArray)(w:World)(hp:p.size≤140737488355328)(hi:i.size≤140737488355328)(hb:b.size≤140737488355328)(h0:aP p=0)(h1:aP i=0)(h2:b.size=0∨b.size≠0∧aP b=0):
  Calls prog 257 #[.string p,.string i,.string b] w fun e w'=>e=.returned (.tuple #[.string (kM (peel p i).1 (peel p i).2 b).1,.int .i64 (kM (peel p i).1 (peel p i).2 b).2])∧Below w.heap.size w w':=by
 have hk0:=fun W=>dU p W hp
 rw[h0]at hk0;have hk1:=fun W=>dU i W hi
 rw[h1]at hk1;have ND:=Lib.hid hk0;clear hk0 h0;have Ec:=Lib.hid hk1;clear hk1 h1;rcases h2 with h2|⟨h3,h2⟩
 ·have hbe:b.toList.isEmpty=true:=by rw[bC];simp[h2]
  go_enter func257,ntmps257;go_wp2_with fail;refine wp_loop_rounds 3 ?_;rw[rounds_succ];go_wp2_with fail;refine(ND.out _).mono ?_;rintro e w' ⟨rfl,rfl⟩;go_wp2_with fail;rw[rounds_succ];go_wp2_with fail;refine(Ec.out _).mono ?_;rintro e w' ⟨rfl,rfl⟩;go_wp2_with fail;rw[rounds_succ];go_wp2_with fail;go_loopg [0,1] p.size (fun gg s0 s1 wr=>∃q j:ByteArray,q.size≤gg∧q.size≤p.size∧j.size≤i.size∧s0=.string q∧s1=.string j∧wr=w.alloc (.cells #[.string p,.string i] 9)∧Aside (peel p i=peel q j))
  case atStart=>exact⟨p,i,aJ _,aJ _,aJ _,rfl,rfl,rfl,(show Aside _ from rfl)⟩
  case round=>
   obtain⟨q,j,hg,hq,hj,rfl,rfl,rfl,A1⟩:=hrel;cases he:elemOf q with
   |some q'=>
    cases hf:elemOf j with
    |some j'=>
     have hz:=dK he;have HZ:q'.size<q.size:=by omega
     have hz2:=dK hf;have HZ2:j'.size<j.size:=by omega
     have HE:=Lib.hid he;clear he hz;have HF:=Lib.hid hf;clear hf hz2;go_wp2_with fail;refine(qy HE.out _ (by omega)).mono ?_;rintro e w' ⟨rfl,rfl⟩;go_wp2_with fail;refine(qy HF.out _ (by omega)).mono ?_;rintro e w' ⟨rfl,rfl⟩;go_wp2_with fail;go_roundg (q'.size)
     case measure=>omega
     case rel=>exact⟨q',j',aJ _,by omega,by omega,rfl,rfl,rfl,(show Aside _ from A1.out.trans (Hw HE.out HF.out))⟩
    |none=>
     have HP:=Lib.hid (A1.out.trans (tZ (p:=q) (i:=j) (Or.inr hf)));have HE:=Lib.hid he;clear he;have HF:=Lib.hid hf;clear hf;go_wp2_with fail;refine(qy HE.out _ (by omega)).mono ?_;rintro e w' ⟨rfl,rfl⟩;go_wp2_with fail;refine(wV HF.out _ (by omega)).mono ?_;rintro e w' ⟨rfl,rfl⟩;go_wp2_with fail;all_goals (go_ret2;go_tidy;refine⟨?_,(Below.refl _ _).alloc (aJ _) _⟩;rw[HP.out];simp_all [kM,FV])
   |none=>
    have HP:=Lib.hid (A1.out.trans (tZ (p:=q) (i:=j) (Or.inl he)));have HE:=Lib.hid he;clear he;have hk2:=fun W=>zQ j W (by omega)
    generalize(elemOf j).getD ⟨#[]⟩=j1 at hk2;generalize(elemOf j).isSome=j2 at hk2;have XJ:=Lib.hid hk2;clear hk2;go_wp2_with fail;refine(wV HE.out _ (by omega)).mono ?_;rintro e w' ⟨rfl,rfl⟩;go_wp2_with fail;refine(XJ.out _).mono ?_;rintro e w' ⟨rfl,rfl⟩;go_wp2_with fail;all_goals (go_ret2;go_tidy;refine⟨?_,(Below.refl _ _).alloc (aJ _) _⟩;rw[HP.out];simp_all [kM,FV])
 ·have hbe:b.toList.isEmpty=false:=by rw[bC];simp[h3]
  have hk3:=fun W=>dU b W hb
  rw[h2]at hk3;have HK3:=Lib.hid hk3;clear hk3 h2;go_enter func257,ntmps257;go_wp2_with fail;refine wp_loop_rounds 3 ?_;rw[rounds_succ];go_wp2_with fail;refine(ND.out _).mono ?_;rintro e w' ⟨rfl,rfl⟩;go_wp2_with fail;rw[rounds_succ];go_wp2_with fail;refine(Ec.out _).mono ?_;rintro e w' ⟨rfl,rfl⟩;go_wp2_with fail;rw[rounds_succ];go_wp2_with fail;refine(HK3.out _).mono ?_;rintro e w' ⟨rfl,rfl⟩;go_wp2_with fail;go_loopg [0,1] p.size (fun gg s0 s1 wr=>∃q j:ByteArray,q.size≤gg∧q.size≤p.size∧j.size≤i.size∧s0=.string q∧s1=.string j∧wr=w.alloc (.cells #[.string p,.string i] 9)∧Aside (peel p i=peel q j))
  case atStart=>exact⟨p,i,aJ _,aJ _,aJ _,rfl,rfl,rfl,(show Aside _ from rfl)⟩
  case round=>
   obtain⟨q,j,hg,hq,hj,rfl,rfl,rfl,A1⟩:=hrel;cases he:elemOf q with
   |some q'=>
    cases hf:elemOf j with
    |some j'=>
     have hz:=dK he;have HZ:q'.size<q.size:=by omega
     have hz2:=dK hf;have HZ2:j'.size<j.size:=by omega
     have HE:=Lib.hid he;clear he hz;have HF:=Lib.hid hf;clear hf hz2;go_wp2_with fail;refine(qy HE.out _ (by omega)).mono ?_;rintro e w' ⟨rfl,rfl⟩;go_wp2_with fail;refine(qy HF.out _ (by omega)).mono ?_;rintro e w' ⟨rfl,rfl⟩;go_wp2_with fail;go_roundg (q'.size)
     case measure=>omega
     case rel=>exact⟨q',j',aJ _,by omega,by omega,rfl,rfl,rfl,(show Aside _ from A1.out.trans (Hw HE.out HF.out))⟩
    |none=>
     have HP:=Lib.hid (A1.out.trans (tZ (p:=q) (i:=j) (Or.inr hf)));have HE:=Lib.hid he;clear he;have HF:=Lib.hid hf;clear hf;go_wp2_with fail;refine(qy HE.out _ (by omega)).mono ?_;rintro e w' ⟨rfl,rfl⟩;go_wp2_with fail;refine(wV HF.out _ (by omega)).mono ?_;rintro e w' ⟨rfl,rfl⟩;go_wp2_with fail;all_goals (go_ret2;go_tidy;refine⟨?_,(Below.refl _ _).alloc (aJ _) _⟩;rw[HP.out];simp_all [kM,FV])
   |none=>
    have HP:=Lib.hid (A1.out.trans (tZ (p:=q) (i:=j) (Or.inl he)));have HE:=Lib.hid he;clear he;have hk2:=fun W=>zQ j W (by omega)
    generalize(elemOf j).getD ⟨#[]⟩=j1 at hk2;generalize(elemOf j).isSome=j2 at hk2;have XJ:=Lib.hid hk2;clear hk2;go_wp2_with fail;refine(wV HE.out _ (by omega)).mono ?_;rintro e w' ⟨rfl,rfl⟩;go_wp2_with fail;refine(XJ.out _).mono ?_;rintro e w' ⟨rfl,rfl⟩;go_wp2_with fail;all_goals (go_ret2;go_tidy;refine⟨?_,(Below.refl _ _).alloc (aJ _) _⟩;rw[HP.out];simp_all [kM,FV])
theorem abu(p i b:ByteArray)(w:World)(hp:p.size≤140737488355328)(hi:i.size≤140737488355328)(hb:b.size≤140737488355328):
  Calls prog 257 #[.string p,.string i,.string b] w fun e w'=>e=.returned (.tuple #[.string (iy p i b).1,.int .i64 (iy p i b).2])∧Below w.heap.size w w':=by
 by_cases h0:aP p=0
 ·by_cases h1:aP i=0
  ·by_cases h2:b.size=0
   ·have:=Va p i b w hp hi hb h0 h1 (Or.inl h2);simpa[iy,jU,h0,h1,h2]using this
   ·by_cases h3:aP b=0
    ·have:=Va p i b w hp hi hb h0 h1 (Or.inr ⟨h2,h3⟩);simpa[iy,jU,h0,h1,h2,h3]using this
    ·have:=U9 p i b w hp hi hb h0 h1 h2 h3;simpa[iy,jU,h0,h1,h2,h3]using this
  ·have:=ad9 p i b w hp hi hb h0 h1;simpa[iy,jU,h0,h1]using this
 ·have:=abv p i b w hp hi hb h0;simpa[iy,jU,h0]using this
theorem EZ{p q:ByteArray}(h:elemOf p=some q)(h0:aP p=0):aP q=0:=by
 have hz:=dK h;unfold aP at h0⊢;rw[uV h]at h0
 by_cases h6:600<p.size
 ·rw[if_pos h6]at h0;cases h0
 ·rw[if_neg h6]at h0;rw[if_neg (by omega)];exact h0
theorem abt:∀(n:Nat) (p i b:ByteArray) (w:World),p.size≤n→p.size≤140737488355328→i.size≤140737488355328→b.size≤140737488355328→
  Calls prog 231 #[.string p,.string i,.string b] w fun e w'=>e=.returned (.tuple #[.string (iy p i b).1,.int .i64 (iy p i b).2])∧w=w':=by
 intro n
 induction n using Nat.strongRecOn with
 |_ n ih=>
 intro p i b w hn hp hi hb
 by_cases h0:aP p=0
 ·have hk0:=fun W=>dZ p W hp
  rw[h0]at hk0
  by_cases h1:aP i=0
  ·have hk1:=fun W=>dZ i W hi
   rw[h1]at hk1
   by_cases h2:b.size=0∨b.size≠0∧aP b=0
   ·have hR:iy p i b=kM (peel p i).1 (peel p i).2 b:=by
     have:jU p i b=0:=by
      rcases h2 with h2|⟨h2,h3⟩<;>simp[jU,h0,h1,h2]
      exact h3
     simp[iy,this]
    cases he:elemOf p with
    |some q=>
     cases hf:elemOf i with
     |some j=>
      have hz:=dK he;have hz2:=dK hf;have hR2:iy p i b=iy q j b:=by
       have h0':=EZ he h0;have h1':=EZ hf h1;have:jU q j b=0:=by
        rcases h2 with h2|⟨h2,h3⟩<;>simp[jU,h0',h1',h2]
        exact h3
       rw[hR,Hw he hf];simp[iy,this]
      have hrec:=ih q.size (by omega) q j b;rw[hR2];generalize iy q j b=z at hrec;have HR:=ah hrec;have HE:=ah he;have HF:=ah hf;have ND:=ah hk0;have Ec:=ah hk1;have HZ:q.size<p.size:=by omega
      have HZ2:j.size<i.size:=by omega
      clear hrec hR hR2 ih he hf hk0 hk1 hz hz2 h0 h1;rcases h2 with h2|⟨h3,h2⟩
      ·have hbe:b.toList.isEmpty=true:=by rw[bC];simp[h2]
       clear h2;go_enter func231,ntmps231;go_wp2_with fail;refine(ND.out _).mono ?_;rintro e w' ⟨rfl,rfl⟩;go_wp2_with fail;refine(Ec.out _).mono ?_;rintro e w' ⟨rfl,rfl⟩;go_wp2_with fail;refine(lX HE.out _ (by omega)).mono ?_;rintro e w' ⟨rfl,rfl⟩;go_wp2_with fail;refine(lX HF.out _ (by omega)).mono ?_;rintro e w' ⟨rfl,rfl⟩;go_wp2_with fail;refine(HR.out _ (aJ _) (by omega) (by omega) hb).mono ?_;rintro e w' ⟨rfl,rfl⟩;go_wp2_with fail
       go_ret2
       exact⟨rfl,rfl⟩
      ·have hbe:b.toList.isEmpty=false:=by rw[bC];simp[h3]
       have hk3:=fun W=>dZ b W hb
       rw[h2]at hk3;have HK3:=Lib.hid hk3;clear hk3 h2 h3;go_enter func231,ntmps231;go_wp2_with fail;refine(ND.out _).mono ?_;rintro e w' ⟨rfl,rfl⟩;go_wp2_with fail;refine(Ec.out _).mono ?_;rintro e w' ⟨rfl,rfl⟩;go_wp2_with fail;refine(HK3.out _).mono ?_;rintro e w' ⟨rfl,rfl⟩;go_wp2_with fail;refine(lX HE.out _ (by omega)).mono ?_;rintro e w' ⟨rfl,rfl⟩;go_wp2_with fail;refine(lX HF.out _ (by omega)).mono ?_;rintro e w' ⟨rfl,rfl⟩;go_wp2_with fail;refine(HR.out _ (aJ _) (by omega) (by omega) hb).mono ?_;rintro e w' ⟨rfl,rfl⟩;go_wp2_with fail
       go_ret2
       exact⟨rfl,rfl⟩
     |none=>
      have HP:=Lib.hid (tZ (p:=p) (i:=i) (Or.inr hf));have HF:=ah hf;clear hf;have HR:=ah hR;have HE:=ah he;have ND:=ah hk0;have Ec:=ah hk1;clear hR he hk0 hk1 ih h0 h1;rcases h2 with h2|⟨h3,h2⟩
      ·have hbe:b.toList.isEmpty=true:=by rw[bC];simp[h2]
       clear h2;go_enter func231,ntmps231;go_wp2_with fail;refine(ND.out _).mono ?_;rintro e w' ⟨rfl,rfl⟩;go_wp2_with fail;refine(Ec.out _).mono ?_;rintro e w' ⟨rfl,rfl⟩;go_wp2_with fail;refine(lX HE.out _ (by omega)).mono ?_;rintro e w' ⟨rfl,rfl⟩;go_wp2_with fail;refine(qU HF.out _ (by omega)).mono ?_;rintro e w' ⟨rfl,rfl⟩;go_wp2_with fail;all_goals (go_ret2;go_tidy;refine⟨?_,rfl⟩;rw[HR.out,HP.out];simp_all [kM,FV])
      ·have hbe:b.toList.isEmpty=false:=by rw[bC];simp[h3]
       have hk3:=fun W=>dZ b W hb
       rw[h2]at hk3;have HK3:=ah hk3;clear hk3 h2 h3;go_enter func231,ntmps231;go_wp2_with fail;refine(ND.out _).mono ?_;rintro e w' ⟨rfl,rfl⟩;go_wp2_with fail;refine(Ec.out _).mono ?_;rintro e w' ⟨rfl,rfl⟩;go_wp2_with fail;refine(HK3.out _).mono ?_;rintro e w' ⟨rfl,rfl⟩;go_wp2_with fail;refine(lX HE.out _ (by omega)).mono ?_;rintro e w' ⟨rfl,rfl⟩;go_wp2_with fail;refine(qU HF.out _ (by omega)).mono ?_;rintro e w' ⟨rfl,rfl⟩;go_wp2_with fail;all_goals (go_ret2;go_tidy;refine⟨?_,rfl⟩;rw[HR.out,HP.out];simp_all [kM,FV])
    |none=>
     have HP:=Lib.hid (tZ (p:=p) (i:=i) (Or.inl he));have hk2:=fun W=>xQ i W hi
     generalize(elemOf i).getD ⟨#[]⟩=j1 at hk2;generalize(elemOf i).isSome=j2 at hk2;have XJ:=ah hk2;clear hk2;have HR:=ah hR;have HE:=ah he;have ND:=ah hk0;have Ec:=ah hk1;clear hR he hk0 hk1 ih h0 h1;rcases h2 with h2|⟨h3,h2⟩
     ·have hbe:b.toList.isEmpty=true:=by rw[bC];simp[h2]
      clear h2;go_enter func231,ntmps231;go_wp2_with fail;refine(ND.out _).mono ?_;rintro e w' ⟨rfl,rfl⟩;go_wp2_with fail;refine(Ec.out _).mono ?_;rintro e w' ⟨rfl,rfl⟩;go_wp2_with fail;refine(qU HE.out _ (by omega)).mono ?_;rintro e w' ⟨rfl,rfl⟩;go_wp2_with fail;refine(XJ.out _).mono ?_;rintro e w' ⟨rfl,rfl⟩;go_wp2_with fail;all_goals (go_ret2;go_tidy;refine⟨?_,rfl⟩;rw[HR.out,HP.out];simp_all [kM,FV])
     ·have hbe:b.toList.isEmpty=false:=by rw[bC];simp[h3]
      have hk3:=fun W=>dZ b W hb
      rw[h2]at hk3;have HK3:=ah hk3;clear hk3 h2 h3;go_enter func231,ntmps231;go_wp2_with fail;refine(ND.out _).mono ?_;rintro e w' ⟨rfl,rfl⟩;go_wp2_with fail;refine(Ec.out _).mono ?_;rintro e w' ⟨rfl,rfl⟩;go_wp2_with fail;refine(HK3.out _).mono ?_;rintro e w' ⟨rfl,rfl⟩;go_wp2_with fail;refine(qU HE.out _ (by omega)).mono ?_;rintro e w' ⟨rfl,rfl⟩;go_wp2_with fail;refine(XJ.out _).mono ?_;rintro e w' ⟨rfl,rfl⟩;go_wp2_with fail;all_goals (go_ret2;go_tidy;refine⟨?_,rfl⟩;rw[HR.out,HP.out];simp_all [kM,FV])
   ·have h3:b.size≠0:=fun e=>h2 (Or.inl e)
    have h4:aP b≠0:=fun e=>h2 (Or.inr ⟨h3,e⟩)
    have hR:iy p i b=(⟨#[]⟩,aP b):=by simp[iy,jU,h0,h1,h3,h4]
    rw[hR];have hk3:=fun W=>dZ b W hb
    generalize aP b=z at hk3 h4⊢;have ND:=ah hk0;have Ec:=ah hk1;have HK3:=ah hk3;have h4n:(z !=0)=true:=by simp[h4]
    have h4b:(z==0)=false:=by simp[h4]
    have hbe:b.toList.isEmpty=false:=by rw[bC];simp[h3]
    clear hR hk0 hk1 hk3 ih h0 h1 h2 h3 h4;go_enter func231,ntmps231;go_wp2_with fail;refine(ND.out _).mono ?_;rintro e w' ⟨rfl,rfl⟩;go_wp2_with fail;refine(Ec.out _).mono ?_;rintro e w' ⟨rfl,rfl⟩;go_wp2_with fail;refine(HK3.out _).mono ?_;rintro e w' ⟨rfl,rfl⟩;go_wp2_with fail
    go_ret2
    exact⟨rfl,rfl⟩
  ·have hR:iy p i b=(⟨#[]⟩,aP i):=by simp[iy,jU,h0,h1]
   rw[hR];have hk1:=fun W=>dZ i W hi
   generalize aP i=z at hk1 h1⊢;have ND:=ah hk0;have Ec:=ah hk1;have h1n:(z !=0)=true:=by simp[h1]
   have h1b:(z==0)=false:=by simp[h1]
   clear hR hk0 hk1 ih h0 h1;go_enter func231,ntmps231;go_wp2_with fail;refine(ND.out _).mono ?_;rintro e w' ⟨rfl,rfl⟩;go_wp2_with fail;refine(Ec.out _).mono ?_;rintro e w' ⟨rfl,rfl⟩;go_wp2_with fail
   go_ret2
   exact⟨rfl,rfl⟩
 ·have hR:iy p i b=(⟨#[]⟩,aP p):=by simp[iy,jU,h0]
  rw[hR];have hk0:=fun W=>dZ p W hp
  generalize aP p=z at hk0 h0⊢;have ND:=ah hk0;have h0n:(z !=0)=true:=by simp[h0]
  have h0b:(z==0)=false:=by simp[h0]
  clear hR hk0 ih h0;go_enter func231,ntmps231;go_wp2_with fail;refine(ND.out _).mono ?_;rintro e w' ⟨rfl,rfl⟩;go_wp2_with fail
  go_ret2
  exact⟨rfl,rfl⟩
def BR:List (ByteArray×ByteArray)→ByteArray→ByteArray×Int
 |[],b=>(b,0)
 |x::l,b=>if(iy x.1 x.2 b).2=0 then BR l (iy x.1 x.2 b).1 else(⟨#[]⟩,(iy x.1 x.2 b).2)
def rM(ps as_:List ByteArray):ByteArray×Int:=BR (ps.zip as_) ⟨#[]⟩
def oV(ps as_:List ByteArray)(r:ByteArray):ByteArray×Int:=
 if 8<ps.length∨8<as_.length then(⟨#[]⟩,1)else if ps.length≠as_.length then(⟨#[]⟩,6)
 else if(rM ps as_).2≠0 then(⟨#[]⟩,(rM ps as_).2)else if aP r≠0 then(⟨#[]⟩,aP r)
 else if gG r=true∧(rM ps as_).1.size=0 then(⟨#[]⟩,8)else yF r (rM ps as_).1
section
variable {ps as_:List ByteArray} {r B p a:ByteArray} {z:Int} {k:Nat}
theorem TV(h:8<ps.length∨8<as_.length):oV ps as_ r=(⟨#[]⟩,1):=by unfold oV;rw[if_pos h]
theorem OL(h:¬(8<ps.length∨8<as_.length))(h2:ps.length≠as_.length):oV ps as_ r=(⟨#[]⟩,6):=by unfold oV;rw[if_neg h,if_pos h2]
theorem OJ(h:¬(8<ps.length∨8<as_.length))(h2:ps.length=as_.length)(h3:rM ps as_=(⟨#[]⟩,z))(hz:z≠0):oV ps as_ r=(⟨#[]⟩,z):=by
 unfold oV;rw[if_neg h,if_neg (by simp[h2]),h3,if_pos hz]
theorem TU(h:¬(8<ps.length∨8<as_.length))(h2:ps.length=as_.length)(h3:rM ps as_=(B,0))(hz:aP r≠0):oV ps as_ r=(⟨#[]⟩,aP r):=by
 unfold oV;rw[if_neg h,if_neg (by simp[h2]),h3,if_neg (by simp),if_pos hz]
theorem TW(h:¬(8<ps.length∨8<as_.length))(h2:ps.length=as_.length)(h3:rM ps as_=(B,0))(hz:aP r=0)(ho:gG r=true)(hb:B.size=0):oV ps as_ r=(⟨#[]⟩,8):=by
 unfold oV;rw[if_neg h,if_neg (by simp[h2]),h3,if_neg (by simp),if_neg (by simp[hz]),if_pos ⟨ho,hb⟩]
theorem ZA(h:¬(8<ps.length∨8<as_.length))(h2:ps.length=as_.length)(h3:rM ps as_=(B,0))(hz:aP r=0)(ho:¬(gG r=true∧B.size=0)):oV ps as_ r=yF r B:=by
 unfold oV;rw[if_neg h,if_neg (by simp[h2]),h3,if_neg (by simp),if_neg (by simp[hz]),if_neg ho]
theorem aeB(hp:ps[k]? =some p)(ha:as_[k]? =some a):(ps.zip as_).drop k=(p,a)::(ps.zip as_).drop (k+1):=by
 have h:(ps.zip as_)[k]? =some (p,a):=by rw[List.getElem?_zip_eq_some];exact⟨hp,ha⟩
 obtain⟨hk,he⟩:=List.getElem?_eq_some_iff.1 h;rw[List.drop_eq_getElem_cons hk,he]
theorem OO{S:ByteArray}(hp:ps[k]? =some p)(ha:as_[k]? =some a)(hm:iy p a B=(S,0)):BR ((ps.zip as_).drop k) B=BR ((ps.zip as_).drop (k+1)) S:=by
 rw[aeB hp ha]
 conv=>lhs;unfold BR
 rw[hm,if_pos rfl]
theorem Ub{S:ByteArray}(hp:ps[k]? =some p)(ha:as_[k]? =some a)(hm:iy p a B=(S,z))(hz:z≠0):BR ((ps.zip as_).drop k) B=(⟨#[]⟩,z):=by
 rw[aeB hp ha];unfold BR;rw[hm,if_neg hz]
theorem Ua(h:ps.length=as_.length):BR ((ps.zip as_).drop ps.length) B=(B,0):=by
 rw[List.drop_of_length_le (by rw[List.length_zip];omega)];rfl
theorem LV:∀(n:Nat) (p i:ByteArray),(AA n p i).2.size≤i.size
 |0,_,_=>aJ _
 |n+1,p,i=>by
  unfold AA;split
  ·next q j hq hj=>
   have:=dK hj;have:=LV n q j;omega
  ·exact aJ _
theorem IB{i b:ByteArray}{n:Nat}(hi:i.size≤n)(hb:b.size≤n):(iy p i b).1.size≤n:=by
 have h0:(⟨#[]⟩:ByteArray).size≤n:=Nat.zero_le _;unfold iy;split
 ·unfold kM;split
  ·split
   ·exact Nat.le_trans (LV _ _ _) hi
   ·exact h0
  ·split
   ·exact hb
   ·exact h0
 ·exact h0
theorem Ph(s:ByteArray):s.toList.isEmpty=decide (s.size=0):=by
 rw[ByteArray.toList_eq,Bool.eq_iff_iff];simp only[List.isEmpty_iff,decide_eq_true_eq];constructor
 ·intro h;show s.data.size=0;rw[←Array.length_toList,h];rfl
 ·intro h;exact List.length_eq_zero_iff.1 (by rw[Array.length_toList];exact h)
end
theorem ae9(ps as_:List ByteArray)(r:ByteArray)(v1 v2:Value)(F G:aV)(m:Int)(w:World)(hF:∀k,F k→k<w.heap.size)(hG:∀k,G k→k<w.heap.size)(h1:SliceOf aY 1 16 w F v1 ps)(h2:SliceOf aY 1 16 w G v2 as_)
  (hr:r.size≤140737488355328) (hm:w.cell? ⟨1,0,none⟩=some (.int .i64 m)):
  Calls prog 229 #[v1,v2,.string r] w fun e w'=>e=.returned (.tuple #[.string (oV ps as_ r).1,.int .i64 (oV ps as_ r).2])∧Below w.heap.size w w':=by
 obtain⟨A1,c1,rfl,_,_,hl1,_⟩:=h1.form;obtain⟨A2,c2,rfl,_,_,hl2,_⟩:=h2.form;have hk:=fun U=>dU r U hr
 have hop:=fun U=>yu r U
 have hput:=fun(B:ByteArray) (hB:B.size≤140737488355328) U (hU:Below w.heap.size w U)=>put_any r B m U hr hB ((hU.cell (World.block_lt_of_cell? w _ hm)).trans hm)
 have hm1:=fun h=>TV (ps:=ps) (as_:=as_) (r:=r) h
 have hm2:=fun h h2=>OL (ps:=ps) (as_:=as_) (r:=r) h h2
 have Tt:=fun(z:Int) h h2 h3 hz=>OJ (ps:=ps) (as_:=as_) (r:=r) (z:=z) h h2 h3 hz
 have hm4:=fun(B:ByteArray) h h2 h3 hz=>TU (ps:=ps) (as_:=as_) (r:=r) (B:=B) h h2 h3 hz
 have uJ:=fun(B:ByteArray) h h2 h3 hz ho hb=>TW (ps:=ps) (as_:=as_) (r:=r) (B:=B) h h2 h3 hz ho hb
 have F9:=fun(B:ByteArray) h h2 h3 hz ho=>ZA (ps:=ps) (as_:=as_) (r:=r) (B:=B) h h2 h3 hz ho
 generalize oV ps as_ r=E at hm1 hm2 Tt hm4 uJ F9⊢;generalize aP r=z1 at hk hm4 uJ F9;generalize gG r=zo at hop uJ F9;obtain⟨HK,HOP,ahh,HM1,HM2,Tc,TK,Gi,HM6,H1,H2⟩:=aH hk hop hput hm1 hm2 Tt hm4 uJ F9 h1 h2;clear hk hop hput hm1 hm2 Tt hm4 uJ F9 h1 h2;go_enter func229,ntmps229
 by_cases h8:8<ps.length
 ·have h8z:(8:Int)<(ps.length:Int):=by omega
  have he:=HM1.out (.inl h8);subst he;go_wp2_with fail
  go_ret2
  exact⟨rfl,Below.refl _ _⟩
 by_cases h9:8<as_.length
 ·have h8z:¬(8:Int)<(ps.length:Int):=by omega
  have h9z:(8:Int)<(as_.length:Int):=by omega
  have he:=HM1.out (.inr h9);subst he;go_wp2_with fail
  go_ret2
  exact⟨rfl,Below.refl _ _⟩
 have h8z:¬(8:Int)<(ps.length:Int):=by omega
 have h9z:¬(8:Int)<(as_.length:Int):=by omega
 have Yu:¬(8<ps.length∨8<as_.length):=by omega
 by_cases hne:ps.length≠as_.length
 ·have aia:¬(ps.length:Int)=(as_.length:Int):=by omega
  have hneb:((ps.length:Int)==(as_.length:Int))=false:=by simp[aia]
  have he:=HM2.out Yu hne;subst he;go_wp2_with fail
  go_ret2
  exact⟨rfl,Below.refl _ _⟩
 have heq:ps.length=as_.length:=by omega
 have an3:((ps.length:Int)==(as_.length:Int))=true:=by simp[heq]
 have XH:=ah heq;have QA:=ah Yu;clear hne Yu heq;go_wp2_with fail;go_loopg [8,9,10,11,28] ps.length (fun gg s8 s9 s10 s11 s28 wr=>∃(kk:Nat) (B:ByteArray),kk≤ps.length∧ps.length-kk≤gg∧s28=.int .i64 kk∧s8=.string B∧Aside (B.size≤140737488355328)∧Aside (BR ((ps.zip as_).drop kk) B=rM ps as_)∧Aside (Below w.heap.size w wr))
 case atStart=>exact⟨0,⟨#[]⟩,Nat.zero_le _,by omega,rfl,rfl,aside (Nat.zero_le _),aside rfl,aside (Below.refl _ _)⟩
 case round=>
  obtain⟨kk,B,hkk,hg,rfl,rfl,hB,hbn,BW⟩:=hrel
  by_cases hlt:kk<ps.length
  ·have hltz:(kk:Int)<(ps.length:Int):=by omega
   have hlt2:kk<as_.length:=by have:=XH.out;omega
   have yU:(kk:Int)<(as_.length:Int):=by omega
   obtain⟨b1,off1,cs1,hA1,anX,hcs1,⟨rfl,hps⟩,hcell1⟩:=(H1.out.up aY.stays hF BW.out).at_ hlt;obtain⟨b2,off2,cs2,hA2,anZ,hcs2,⟨rfl,has⟩,hcell2⟩:=(H2.out.up aY.stays hG BW.out).at_ hlt2;have hx1:=aK hlt;have hx2:=aK hlt2;generalize ps[kk]=p at hx1 hps hcell1;generalize as_[kk]=a at hx2 has hcell2;have hc1:=hcell1 0 _ rfl;have hc2:=hcell2 0 _ rfl;simp only[Nat.mul_one,Nat.add_zero]at hc1 hc2;subst hA1;subst hA2;have hmt:=fun U=>abu p a B U hps has hB.out
   have hsz:=IB (p:=p) has hB.out;have hst:=fun S h=>OO (ps:=ps) (as_:=as_) (B:=B) (S:=S) hx1 hx2 h
   have her:=fun S z h hz=>Ub (ps:=ps) (as_:=as_) (B:=B) (S:=S) (z:=z) hx1 hx2 h hz
   generalize iy p a B=q at hmt hsz hst her;obtain⟨S,C⟩:=q;dsimp only at hmt hsz;have hst:=fun(h:C=0)=>hst S (by rw[h])
   have her:=fun(h:C≠0)=>her S C rfl h
   obtain⟨HMT,Ny,HST,HER⟩:=au hmt hsz hst her;clear hmt hsz hst her;clear hcell1 hcell2 hcs1 hcs2 hx1 hx2;go_wp2_with fail;refine(HMT.out _).mono ?_;rintro e w1 ⟨rfl,hb1⟩;have hbw:=BW.out.trans (hb1.mono BW.out.size)
   by_cases hC:C=0
   ·subst hC;have hs:=HST.out rfl;obtain⟨HS,cO⟩:=aj hs hbw;clear hs hbw;go_wp2_with fail;go_roundg (ps.length-(kk+1))
    case measure=>omega
    case rel=>exact⟨kk+1,S,by omega,by omega,by go_num,rfl,aside Ny.out,aside (HS.out.symm.trans hbn.out),aside cO.out⟩
   ·have hCb:(C==0)=false:=by simp[hC]
    have he:=Tc.out C QA.out XH.out (hbn.out.symm.trans (HER.out hC)) hC;subst he;have cO:=ah hbw;clear hbw;go_wp2_with fail
    go_ret2
    exact⟨rfl,cO.out⟩
  ·have hltz:¬(kk:Int)<(ps.length:Int):=by omega
   obtain rfl:kk=ps.length:=by omega
   have hb0:rM ps as_=(B,0):=hbn.out.symm.trans (Ua XH.out);have hbe:=Ph B;have hpt:=ahh.out B hB.out;obtain⟨HB0,TM⟩:=aj hb0 hpt;clear hb0 hpt;go_wp2_with fail;refine(HK.out _).mono ?_;rintro e w' ⟨rfl,rfl⟩
   by_cases hz1:z1=0
   ·subst hz1;go_wp2_with fail;refine(HOP.out _).mono ?_;rintro e w' ⟨rfl,rfl⟩
    by_cases hob:zo=true∧B.size=0
    ·obtain⟨rfl,hob⟩:=hob;have ahW:B.toList.isEmpty=true:=by rw[hbe];simp[hob]
     clear hbe;have he:=Gi.out B QA.out XH.out HB0.out (by first|rfl|trivial) (by first|rfl|trivial) hob;subst he;go_wp2_with fail
     go_ret2
     exact⟨rfl,BW.out⟩
    ·have he:=HM6.out B QA.out XH.out HB0.out (by first|rfl|trivial) hob;subst he;cases zo with
     |false=>
      go_wp2_with fail;refine(TM.out _ BW.out).mono ?_;rintro e w2 ⟨rfl,hb2⟩;have hbw:=BW.out.trans (hb2.mono BW.out.size);have cO:=ah hbw;clear hbw;go_wp2_with fail
      go_ret2
      exact⟨rfl,cO.out⟩
     |true=>
      have ahW:B.toList.isEmpty=false:=by rw[hbe];simp at hob;simp[hob]
      clear hbe hob;go_wp2_with fail;refine(TM.out _ BW.out).mono ?_;rintro e w2 ⟨rfl,hb2⟩;have hbw:=BW.out.trans (hb2.mono BW.out.size);have cO:=ah hbw;clear hbw;go_wp2_with fail
      go_ret2
      exact⟨rfl,cO.out⟩
   ·have hzb:(z1==0)=false:=by simp[hz1]
    have he:=TK.out B QA.out XH.out HB0.out hz1;subst he;go_wp2_with fail
    go_ret2
    exact⟨rfl,BW.out⟩
theorem aaM(ps as_:List ByteArray)(r:ByteArray)(v1 v2:Value)(F G:aV)(w:World)(hF:∀k,F k→k<w.heap.size)(hG:∀k,G k→k<w.heap.size)(h1:SliceOf aY 1 16 w F v1 ps)(h2:SliceOf aY 1 16 w G v2 as_)
  (hr:r.size≤140737488355328):
  Calls prog 169 #[v1,v2,.string r] w fun e w'=>e=.returned (.tuple #[.string (oV ps as_ r).1,.int .i64 (oV ps as_ r).2])∧Below w.heap.size w w':=by
 obtain⟨A1,c1,rfl,_,_,hl1,_⟩:=h1.form;obtain⟨A2,c2,rfl,_,_,hl2,_⟩:=h2.form;have hk:=fun U=>dZ r U hr
 have hop:=fun U=>Dq r U hr
 have hput:=fun(B:ByteArray) (hB:B.size≤140737488355328) U=>abE r B U hr hB
 have hm1:=fun h=>TV (ps:=ps) (as_:=as_) (r:=r) h
 have hm2:=fun h h2=>OL (ps:=ps) (as_:=as_) (r:=r) h h2
 have Tt:=fun(z:Int) h h2 h3 hz=>OJ (ps:=ps) (as_:=as_) (r:=r) (z:=z) h h2 h3 hz
 have hm4:=fun(B:ByteArray) h h2 h3 hz=>TU (ps:=ps) (as_:=as_) (r:=r) (B:=B) h h2 h3 hz
 have uJ:=fun(B:ByteArray) h h2 h3 hz ho hb=>TW (ps:=ps) (as_:=as_) (r:=r) (B:=B) h h2 h3 hz ho hb
 have F9:=fun(B:ByteArray) h h2 h3 hz ho=>ZA (ps:=ps) (as_:=as_) (r:=r) (B:=B) h h2 h3 hz ho
 generalize oV ps as_ r=E at hm1 hm2 Tt hm4 uJ F9⊢;generalize aP r=z1 at hk hm4 uJ F9;generalize gG r=zo at hop uJ F9;obtain⟨HK,HOP,ahh,HM1,HM2,Tc,TK,Gi,HM6,H1,H2⟩:=aH hk hop hput hm1 hm2 Tt hm4 uJ F9 h1 h2;clear hk hop hput hm1 hm2 Tt hm4 uJ F9 h1 h2;go_enter func169,ntmps169
 by_cases h8:8<ps.length
 ·have h8z:(8:Int)<(ps.length:Int):=by omega
  have he:=HM1.out (.inl h8);subst he;go_wp2_with fail
  go_ret2
  exact⟨rfl,Below.refl _ _⟩
 by_cases h9:8<as_.length
 ·have h8z:¬(8:Int)<(ps.length:Int):=by omega
  have h9z:(8:Int)<(as_.length:Int):=by omega
  have he:=HM1.out (.inr h9);subst he;go_wp2_with fail
  go_ret2
  exact⟨rfl,Below.refl _ _⟩
 have h8z:¬(8:Int)<(ps.length:Int):=by omega
 have h9z:¬(8:Int)<(as_.length:Int):=by omega
 have Yu:¬(8<ps.length∨8<as_.length):=by omega
 by_cases hne:ps.length≠as_.length
 ·have aia:¬(ps.length:Int)=(as_.length:Int):=by omega
  have hneb:((ps.length:Int)==(as_.length:Int))=false:=by simp[aia]
  have he:=HM2.out Yu hne;subst he;go_wp2_with fail
  go_ret2
  exact⟨rfl,Below.refl _ _⟩
 have heq:ps.length=as_.length:=by omega
 have an3:((ps.length:Int)==(as_.length:Int))=true:=by simp[heq]
 have XH:=ah heq;have QA:=ah Yu;clear hne Yu heq;go_wp2_with fail;go_loopg [8,9,10,11] ps.length (fun gg s8 s9 s10 s11 wr=>∃(kk:Nat) (B:ByteArray),kk≤ps.length∧ps.length-kk≤gg∧s9=.int .i64 kk∧s8=.string B∧Aside (B.size≤140737488355328)∧Aside (BR ((ps.zip as_).drop kk) B=rM ps as_)∧Aside (Below w.heap.size w wr))
 case atStart=>exact⟨0,⟨#[]⟩,Nat.zero_le _,by omega,rfl,rfl,aside (Nat.zero_le _),aside rfl,aside (Below.refl _ _)⟩
 case round=>
  obtain⟨kk,B,hkk,hg,rfl,rfl,hB,hbn,BW⟩:=hrel;obtain⟨wo,rfl⟩:∃W,W=wr:=⟨_,rfl⟩
  by_cases hlt:kk<ps.length
  ·have hltz:(kk:Int)<(ps.length:Int):=by omega
   have hlt2:kk<as_.length:=by have:=XH.out;omega
   have yU:(kk:Int)<(as_.length:Int):=by omega
   obtain⟨b1,off1,cs1,hA1,anX,hcs1,⟨rfl,hps⟩,hcell1⟩:=(H1.out.up aY.stays hF BW.out).at_ hlt;obtain⟨b2,off2,cs2,hA2,anZ,hcs2,⟨rfl,has⟩,hcell2⟩:=(H2.out.up aY.stays hG BW.out).at_ hlt2;have hx1:=aK hlt;have hx2:=aK hlt2;generalize ps[kk]=p at hx1 hps hcell1;generalize as_[kk]=a at hx2 has hcell2;have hc1:=hcell1 0 _ rfl;have hc2:=hcell2 0 _ rfl;simp only[Nat.mul_one,Nat.add_zero]at hc1 hc2;subst hA1;subst hA2;have hmt:=fun U=>abt p.size p a B U (aJ _) hps has hB.out
   have hsz:=IB (p:=p) has hB.out;have hst:=fun S h=>OO (ps:=ps) (as_:=as_) (B:=B) (S:=S) hx1 hx2 h
   have her:=fun S z h hz=>Ub (ps:=ps) (as_:=as_) (B:=B) (S:=S) (z:=z) hx1 hx2 h hz
   generalize iy p a B=q at hmt hsz hst her;obtain⟨S,C⟩:=q;dsimp only at hmt hsz;have hst:=fun(h:C=0)=>hst S (by rw[h])
   have her:=fun(h:C≠0)=>her S C rfl h
   have hmt':=fun U=>(hmt U).mono fun e w' h=>(⟨h.1,h.2.symm⟩:e=.returned (.tuple #[.string S,.int .i64 C])∧w'=U)
   obtain⟨HMT,Ny,HST,HER⟩:=au hmt' hsz hst her;clear hmt' hsz hst her;clear hcell1 hcell2 hcs1 hcs2 hx1 hx2 hmt;go_upto_region 9 with fail
   go_cut [10,11] (fun s10 s11 wc=>s10=.string S∧s11=.int .i64 C∧Aside (Below wo.heap.size wo wc))
   case first=>
    go_wp2_with fail;go_quiet((go_at_call 231;exact Calls.quiet_of_same (HMT.out _)));go_wp2_with fail;go_meet;exact⟨rfl,rfl,aside (below_drewN (Below.refl _ _) _)⟩
   case rest=>
   obtain⟨rfl,rfl,hb1⟩:=hcut;obtain⟨w1,rfl⟩:∃W,W=wc:=⟨_,rfl⟩;have hbw:=BW.out.trans (hb1.out.mono BW.out.size)
   by_cases hC:C=0
   ·subst hC;have hs:=HST.out rfl;obtain⟨HS,cO⟩:=aj hs hbw;clear hs hbw;go_wp2_with fail;go_roundg (ps.length-(kk+1))
    case measure=>omega
    case rel=>exact⟨kk+1,S,by omega,by omega,by go_num,rfl,aside Ny.out,aside (HS.out.symm.trans hbn.out),aside cO.out⟩
   ·have hCb:(C==0)=false:=by simp[hC]
    have he:=Tc.out C QA.out XH.out (hbn.out.symm.trans (HER.out hC)) hC;subst he;have cO:=ah hbw;clear hbw;go_wp2_with fail
    go_ret2
    exact⟨rfl,cO.out⟩
  ·have hltz:¬(kk:Int)<(ps.length:Int):=by omega
   obtain rfl:kk=ps.length:=by omega
   have hb0:rM ps as_=(B,0):=hbn.out.symm.trans (Ua XH.out);have hbe:=Ph B;have hpt:=ahh.out B hB.out;obtain⟨HB0,TM⟩:=aj hb0 hpt;clear hb0 hpt;go_wp2_with fail;refine(HK.out _).mono ?_;rintro e w' ⟨rfl,rfl⟩
   by_cases hz1:z1=0
   ·subst hz1
    by_cases hob:zo=true∧B.size=0
    ·obtain⟨rfl,hob⟩:=hob;have ahW:B.toList.isEmpty=true:=by rw[hbe];simp[hob]
     clear hbe;have he:=Gi.out B QA.out XH.out HB0.out (by first|rfl|trivial) (by first|rfl|trivial) hob;subst he;go_wp2_with fail;refine(HOP.out _).mono ?_;rintro e w' ⟨rfl,rfl⟩;go_wp2_with fail
     go_ret2
     exact⟨rfl,BW.out⟩
    ·have he:=HM6.out B QA.out XH.out HB0.out (by first|rfl|trivial) hob;subst he;cases zo with
     |false=>
      clear hbe hob;go_wp2_with fail;refine(HOP.out _).mono ?_;rintro e w' ⟨rfl,rfl⟩;go_wp2_with fail;refine(TM.out _).mono ?_;rintro e w2 ⟨rfl,hb2⟩;have hbw:=BW.out.trans (hb2.mono BW.out.size);have cO:=ah hbw;clear hbw;go_wp2_with fail
      go_ret2
      exact⟨rfl,cO.out⟩
     |true=>
      have ahW:B.toList.isEmpty=false:=by rw[hbe];simp at hob;simp[hob]
      clear hbe hob;go_wp2_with fail;refine(HOP.out _).mono ?_;rintro e w' ⟨rfl,rfl⟩;go_wp2_with fail;refine(TM.out _).mono ?_;rintro e w2 ⟨rfl,hb2⟩;have hbw:=BW.out.trans (hb2.mono BW.out.size);have cO:=ah hbw;clear hbw;go_wp2_with fail
      go_ret2
      exact⟨rfl,cO.out⟩
   ·have hzb:(z1==0)=false:=by simp[hz1]
    have he:=TK.out B QA.out XH.out HB0.out hz1;subst he;clear hbe;go_wp2_with fail
    go_ret2
    exact⟨rfl,BW.out⟩
end Go.Proofs.YtjaladhdnbhliaaGreatDoor
