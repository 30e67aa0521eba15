/- Parts. -/
import Derived.Test.YtjaladhdnbhliaaGreatDoorQName
import Derived.Deep.Light
import Derived.Deep.DeepCutAuto
import Derived.Deep.CutBlock
set_option maxHeartbeats 16000000
set_option maxRecDepth 100000
namespace Go.Proofs.YtjaladhdnbhliaaGreatDoor
open Go.Proofs.Tryz
open Go.RowKit Go.Shelf
def dn:Nat→Ty→Int
 |0,_=>1
 |f+1,.mk k o nm args=>
  if k<1∨4<k then 3
  else if k=3 then(match args with
   |[a]=>if nm.size=0∧o.size=0 then dn f a else 4
   |_=>4)
  else if args.length≠0 then 4
  else if k=4 then(if aX nm=true∧(o.size=0∨aX o=true)then 0 else 4)
  else if nm.size=0∧o.size=0 then 0 else 4
def wW(k:Int)(o s:ByteArray)(m:Nat):Bool:=
 if k=1 then decide (s.size=0)&&decide (m=0)
 else if k=2 then jq s&&decide (m=0)
 else if k=3 then aX s&&decide (m=0)
 else if k=4 then aX s&&(decide (o.size=0)||aX o)
 else if k=6 then decide (s.size=0)&&decide (1≤m)
 else decide (s.size=0)&&decide (m=2)
def iE:Nat→Ex→Int
 |0,_=>1
 |f+1,.mk k n o s args=>
  if k<1∨7<k then 3
  else if 8<args.length then 1
  else if(k≠1∧n≠0)∨(k≠4∧o.size≠0)then 4
  else if wW k o s args.length=false then 4
  else if k=1∧(n<0∨999999<n)then 2
  else dL (iE f) args
def fZ(x:Field):Int:=if aX x.name then dn 10 x.dV else 4
def jg(x:Func):Int:=
 if aX x.name=false∨(x.dH.size≠0∧aX x.dH=false)then 4
 else if 8<x.params.length then 1
 else if dL fZ x.params≠0 then dL fZ x.params
 else if dn 10 x.result≠0 then dn 10 x.result
 else iE 10 x.body
def qJ(s:ByteArray):Int:=if aX s then 0 else 4
def dD(m:Module):Int:=
 if 24<m.uses.length+m.types.length+m.funcs.length then 1
 else if dL qJ m.uses≠0 then dL qJ m.uses
 else if dL fZ m.types≠0 then dL fZ m.types
 else dL jg m.funcs
theorem uh{s:ByteArray}(h:s.toList.isEmpty=true):s.size=0:=by rw[bC]at h;simpa using h
theorem size_pos{s:ByteArray}(h:s.toList.isEmpty=false):s.size≠0:=by rw[bC]at h;simpa using h
theorem wF:∀(f:Nat) (t:Ty) (d:Int) (cs:List Value) (F:aV) (w:World),d+f=11→f≤10→iD w F cs t→(∀k,F k→k<w.heap.size)→
  Calls prog 147 #[.agg cs.toArray,.int .i64 d] w fun e w'=>e=.returned (.int .i64 (dn f t))∧Below w.heap.size w w':=by
 intro f
 induction f with
 |zero=>
  intro t d cs F w hd _ ht hF;obtain⟨n,ht⟩:=ht;cases n with
  |zero=>exact ht.elim
  |succ n=>
   obtain⟨av,rfl,_,_,_,hav⟩:=ht;obtain⟨A,cap,rfl,_⟩:=hav.form;have hdz:10<d:=by omega
   clear hav hd;go_enter func147,ntmps147;go_wp2_with fail;go_ret;exact⟨rfl,by go_grown⟩
 |succ f ih=>
  intro t d cs F w hd hf ht hF;obtain⟨n,ht⟩:=ht;cases n with
  |zero=>exact ht.elim
  |succ n=>
   obtain⟨av,rfl,hk,ho,hn,hav⟩:=ht;obtain⟨k,o,nm,args⟩:=t;simp only[Ty.kind,Ty.bT,Ty.name,Ty.args]at*;obtain⟨A,cap,rfl,_,_,hl1,_⟩:=hav.form;have hdz:¬10<d:=by omega
   have hdl:1≤d:=by omega
   obtain⟨hk1,hk2⟩:=hk;have hnm:=fun W=>fU nm W hn
   have hof:=fun W=>fU o W ho
   obtain⟨z1,hz1⟩:∃z,aX nm=z:=⟨_,rfl⟩;obtain⟨z2,hz2⟩:∃z,aX o=z:=⟨_,rfl⟩;rw[hz1]at hnm;rw[hz2]at hof;obtain⟨Z1,Z2,HN,HO,HD⟩:=ay hz1 hz2 hnm hof hd;clear hz1 hz2 hnm hof hd
   by_cases h3:k=3
   ·subst h3
    by_cases h1:args.length=1
    ·obtain⟨a,rfl⟩:=List.length_eq_one_iff.1 h1;obtain⟨b1,off,cs,rfl,hb,hcs,hr,hcell⟩:=hav.at_ (k:=0) (by simp);simp only[List.getElem_cons_zero]at hr;obtain⟨c0,c1,c2,c3,rfl⟩:=xU hcs;have hc0:=hcell 0 _ rfl;have hc1:=hcell 1 _ rfl;have hc2:=hcell 2 _ rfl;have hc3:=hcell 3 _ rfl;simp only[Nat.zero_mul,Nat.add_zero]at hc0 hc1 hc2 hc3;have hrec:=fun U (hU:Below w.heap.size w U)=>ih a (d+1) _ F U (by have:=HD.out;omega) (by omega) (iD.stays w U F F _ a ⟨n,hr⟩ (fun _ h=>h) (Keeps.of_below hU hF)) (bg hF hU)
     have hT:dn (f+1) (.mk 3 o nm [a])=if nm.size=0∧o.size=0 then dn f a else 4:=by simp[dn]
     have hbl:b1<w.heap.size:=hF _ hb;have hq:inB 3 1 4=true:=by decide
     by_cases he:nm.size=0∧o.size=0
     ·rw[if_pos he]at hT;have he1:nm.toList.isEmpty=true:=by rw[bC];simp[he.1]
      have he2:o.toList.isEmpty=true:=by rw[bC];simp[he.2]
      rw[hT];generalize dn f a=z at hrec⊢;have HR:=ah hrec;clear hrec hcell hr hav ih hT hcs h1 he;go_enter func147,ntmps147;go_wp2_with(go_at_call 139;refine(iw _ _ _ _).mono ?_;rintro e w' ⟨rfl,rfl⟩);refine(HR.out _ (by go_grown)).mono ?_;rintro e w' ⟨rfl,hb2⟩;go_wp2_with fail;go_ret;exact⟨rfl,Below.trans (by go_grown) (hb2.mono (by simp))⟩
     ·rw[if_neg he]at hT;rw[hT];clear hrec hcell hr hav ih hT hcs h1
      by_cases hz:nm.size=0
      ·have he1:nm.toList.isEmpty=true:=by rw[bC];simp[hz]
       have he2:o.toList.isEmpty=false:=by rw[bC,decide_eq_false_iff_not];exact fun h=>he ⟨hz,h⟩
       clear he hz;go_enter func147,ntmps147;go_wp2_with(go_at_call 139;refine(iw _ _ _ _).mono ?_;rintro e w' ⟨rfl,rfl⟩);go_ret;exact⟨rfl,by go_grown⟩
      ·have he1:nm.toList.isEmpty=false:=by rw[bC];simp[hz]
       clear he hz;go_enter func147,ntmps147;go_wp2_with(go_at_call 139;refine(iw _ _ _ _).mono ?_;rintro e w' ⟨rfl,rfl⟩);go_ret;exact⟨rfl,by go_grown⟩
    ·have hT:dn (f+1) (.mk 3 o nm args)=4:=by
      unfold dn;rw[if_neg (by decide),if_pos rfl]
      match args,h1 with
      |[],_=>rfl
      |[a],h=>exact absurd rfl h
      |_::_::_,_=>rfl
     rw[hT];have hq:inB 3 1 4=true:=by decide
     have hl:((args.length:Int)!=1)=true:=by simp;omega
     clear hT ih hav h1;go_enter func147,ntmps147;go_wp2_with(go_at_call 139;refine(iw _ _ _ _).mono ?_;rintro e w' ⟨rfl,rfl⟩);go_ret;exact⟨rfl,by go_grown⟩
   ·have hk3:(k==3)=false:=by simp[h3]
    obtain⟨E,hE⟩:∃E,dn (f+1) (.mk k o nm args)=E:=⟨_,rfl⟩;rw[hE];clear ih hav
    by_cases hr:1≤k∧k≤4
    ·have hq:inB k 1 4=true:=by simp[inB];omega
     by_cases hl:args.length=0
     ·have hl0:((args.length:Int)!=0)=false:=by simp[hl]
      by_cases h4:k=4
      ·subst h4;cases z1 with
       |false=>
        obtain rfl:E=4:=by rw[←hE];simp[dn,hl,Z1.out]
        clear hE hr h3 hl;go_enter func147,ntmps147;go_wp2_with(first|(go_at_call 139;refine(iw _ _ _ _).mono ?_;rintro e w' ⟨rfl,rfl⟩)|(go_at_call 98;refine(HN.out _).mono ?_;rintro e w' ⟨rfl,rfl⟩));go_ret;exact⟨rfl,by go_grown⟩
       |true=>
        by_cases hz:o.size=0
        ·have he2:o.toList.isEmpty=true:=by rw[bC];simp[hz]
         obtain rfl:E=0:=by rw[←hE];simp[dn,hl,Z1.out,hz]
         clear hE hr h3 hl hz;go_enter func147,ntmps147;go_wp2_with(first|(go_at_call 139;refine(iw _ _ _ _).mono ?_;rintro e w' ⟨rfl,rfl⟩)|(go_at_call 98;refine(HN.out _).mono ?_;rintro e w' ⟨rfl,rfl⟩));go_ret;exact⟨rfl,by go_grown⟩
        ·have he2:o.toList.isEmpty=false:=by rw[bC];simp[hz]
         cases z2 with
         |true=>
          obtain rfl:E=0:=by rw[←hE];simp[dn,hl,Z1.out,Z2.out]
          clear hE hr h3 hl hz;go_enter func147,ntmps147;go_wp2_with fail;refine(iw _ _ _ _).mono ?_;rintro e w' ⟨rfl,rfl⟩;go_wp2_with fail;refine(HN.out _).mono ?_;rintro e w' ⟨rfl,rfl⟩;go_wp2_with fail;refine(HO.out _).mono ?_;rintro e w' ⟨rfl,rfl⟩;go_wp2_with fail;go_ret;exact⟨rfl,by go_grown⟩
         |false=>
          obtain rfl:E=4:=by rw[←hE];simp[dn,hl,Z1.out,Z2.out,hz]
          clear hE hr h3 hl hz;go_enter func147,ntmps147;go_wp2_with fail;refine(iw _ _ _ _).mono ?_;rintro e w' ⟨rfl,rfl⟩;go_wp2_with fail;refine(HN.out _).mono ?_;rintro e w' ⟨rfl,rfl⟩;go_wp2_with fail;refine(HO.out _).mono ?_;rintro e w' ⟨rfl,rfl⟩;go_wp2_with fail;go_ret;exact⟨rfl,by go_grown⟩
      ·have hk4:(k==4)=false:=by simp[h4]
       have hk12:¬(k<1∨4<k):=by omega
       by_cases hz:nm.size=0
       ·have he1:nm.toList.isEmpty=true:=by rw[bC];simp[hz]
        by_cases hz2:o.size=0
        ·have he2:o.toList.isEmpty=true:=by rw[bC];simp[hz2]
         obtain rfl:E=0:=by rw[←hE];unfold dn;rw[if_neg hk12,if_neg h3];simp[hl,h4,hz,hz2]
         clear hE hr h3 hl hz hz2 h4 hk12;go_enter func147,ntmps147;go_wp2_with(go_at_call 139;refine(iw _ _ _ _).mono ?_;rintro e w' ⟨rfl,rfl⟩);go_ret;exact⟨rfl,by go_grown⟩
        ·have he2:o.toList.isEmpty=false:=by rw[bC];simp[hz2]
         obtain rfl:E=4:=by rw[←hE];unfold dn;rw[if_neg hk12,if_neg h3];simp[hl,h4,hz,hz2]
         clear hE hr h3 hl hz hz2 h4 hk12;go_enter func147,ntmps147;go_wp2_with(go_at_call 139;refine(iw _ _ _ _).mono ?_;rintro e w' ⟨rfl,rfl⟩);go_ret;exact⟨rfl,by go_grown⟩
       ·have he1:nm.toList.isEmpty=false:=by rw[bC];simp[hz]
        obtain rfl:E=4:=by rw[←hE];unfold dn;rw[if_neg hk12,if_neg h3];simp[hl,h4,hz]
        clear hE hr h3 hl hz h4 hk12;go_enter func147,ntmps147;go_wp2_with(go_at_call 139;refine(iw _ _ _ _).mono ?_;rintro e w' ⟨rfl,rfl⟩);go_ret;exact⟨rfl,by go_grown⟩
     ·have hl0:((args.length:Int)!=0)=true:=by simp;intro h;exact hl (by simp[h])
      obtain rfl:E=4:=by rw[←hE];unfold dn;rw[if_neg (by omega),if_neg h3,if_pos hl]
      clear hE hr h3 hl;go_enter func147,ntmps147;go_wp2_with(go_at_call 139;refine(iw _ _ _ _).mono ?_;rintro e w' ⟨rfl,rfl⟩);go_ret;exact⟨rfl,by go_grown⟩
    ·have hq:inB k 1 4=false:=by simp[inB];omega
     obtain rfl:E=3:=by rw[←hE];unfold dn;rw[if_pos (by omega)]
     clear hE hr h3;go_enter func147,ntmps147;go_wp2_with(go_at_call 139;refine(iw _ _ _ _).mono ?_;rintro e w' ⟨rfl,rfl⟩);go_ret;exact⟨rfl,by go_grown⟩
def gK(k n:Int)(o s:ByteArray)(m:Nat):Int:=
 if k<1∨7<k then 3
 else if 8<m then 1
 else if(k≠1∧n≠0)∨(k≠4∧o.size≠0)then 4
 else if wW k o s m=false then 4
 else if k=1∧(n<0∨999999<n)then 2 else 0
def Ik(x:Ex):Int:=gK x.kind x.n x.bT x.s x.args.length
theorem KG(f:Nat)(x:Ex):iE (f+1) x=if Ik x=0 then dL (iE f) x.args else Ik x:=by
 obtain⟨k,n,o,s,args⟩:=x
 show iE (f+1) (.mk k n o s args)=if gK k n o s args.length=0 then dL (iE f) args else gK k n o s args.length
 conv=>lhs;unfold iE
 unfold gK
 by_cases h1:k<1∨7<k
 ·simp only[if_pos h1];rfl
 ·simp only[if_neg h1]
  by_cases h2:8<args.length
  ·simp only[if_pos h2];rfl
  ·simp only[if_neg h2]
   by_cases h3:(k≠1∧n≠0)∨(k≠4∧o.size≠0)
   ·simp only[if_pos h3];rfl
   ·simp only[if_neg h3]
    by_cases h4:wW k o s args.length=false
    ·simp only[if_pos h4];rfl
    ·simp only[if_neg h4]
     by_cases h5:k=1∧(n<0∨999999<n)
     ·simp only[if_pos h5];rfl
     ·simp only[if_neg h5];rfl
theorem toList_nil{s:ByteArray}:s.toList= []↔s.size=0:=by
 rw[ByteArray.toList_eq,←List.length_eq_zero_iff];rfl
theorem Pn{f:Nat}{x:Ex}{e:Int}(h:Ik x=e)(h0:e≠0):iE (f+1) x=e:=by
 rw[KG,if_neg (by rw[h];exact h0),h]
theorem KF{f:Nat}{x:Ex}(h:Ik x=0):iE (f+1) x=dL (iE f) x.args:=by
 rw[KG,if_pos h]
theorem NR:∀(f:Nat) (x:Ex) (d:Int) (cs:List Value) (F:aV) (w:World),d+f=11→f≤10→dN w F cs x→(∀k,F k→k<w.heap.size)→
  Calls prog 210 #[.agg cs.toArray,.int .i64 d] w fun e w'=>e=.returned (.int .i64 (iE f x))∧Below w.heap.size w w':=by
 intro f
 induction f with
 |zero=>
  intro x d cs F w hd _ ht hF;obtain⟨n,ht⟩:=ht;cases n with
  |zero=>exact ht.elim
  |succ n=>
   obtain⟨av,rfl,_,_,_,_,hav⟩:=ht;obtain⟨A,cap,rfl,_⟩:=hav.form;have hdz:10<d:=by omega
   clear hav hd;go_enter func210,ntmps210;go_wp2_with fail;go_ret;exact⟨rfl,by go_grown⟩
 |succ f ih=>
  intro x d cs F w hd hf ht hF;obtain⟨n,ht⟩:=ht;cases n with
  |zero=>exact ht.elim
  |succ n=>
   obtain⟨av,rfl,hk,hn,ho,hs,hav⟩:=ht;obtain⟨E,hE⟩:∃E,iE (f+1) x=E:=⟨_,rfl⟩;rw[hE];have hown:=fun e (h:Ik x=e) (h0:e≠0)=>(hE.symm.trans (Pn (f:=f) h h0):E=e)
   have hargs:=fun(h:Ik x=0)=>KF (f:=f) h
   obtain⟨k,m,o,s,args⟩:=x;simp only[Ex.kind,Ex.n,Ex.bT,Ex.s,Ex.args]at*;obtain⟨A,cap,rfl,_,_,hl1,_⟩:=hav.form;have hdz:¬10<d:=by omega
   have hdl:1≤d:=by omega
   obtain⟨hk1,hk2⟩:=hk;obtain⟨hm1,hm2⟩:=hn;unfold okS at ho hs;obtain⟨HD,HIH,HE,HO,HAR,HAV⟩:=aA hd ih hE hown hargs hav;clear hd ih hE hown hargs hav;go_enter func210,ntmps210;go_upto_region 1 with fail
   have hB:=Box.made w 81 #[.int .i64 k,.int .i64 m,.string o,.string s,.slice A args.length cap];have hb0:Below w.heap.size w (w.alloc (.cells #[.int .i64 k,.int .i64 m,.string o,.string s,.slice A args.length cap] 81)):=by go_grown
   generalize w.alloc (.cells #[.int .i64 k,.int .i64 m,.string o,.string s,.slice A args.length cap] 81)=W1 at hB hb0⊢;have x0:=hB.at_ 0 _ rfl;have x1:=hB.at_ 1 _ rfl;have x2:=hB.at_ 2 _ rfl;have x3:=hB.at_ 3 _ rfl;have x4:=hB.at_ 4 _ rfl;obtain⟨HB,Hb0⟩:=aj hB hb0;clear hB hb0
   by_cases hr:1≤k∧k≤7
   ·have hq:inB k 1 7=true:=by simp[inB];omega
    by_cases h8:8<args.length
    ·have h8z:(8:Int)<(args.length:Int):=by omega
     have HF:=Lib.hid (HO.out 1 (by show gK k m o s args.length=1;unfold gK;rw[if_neg (by omega),if_pos h8]) (by decide));clear hr;go_wp2_with(go_at_call 139;refine(iw _ _ _ _).mono ?_;rintro e w' ⟨rfl,rfl⟩);go_ret;exact⟨dh HF.out.symm,Hb0.out⟩
    ·have h8z:¬(8:Int)<(args.length:Int):=by omega
     obtain⟨hr1,hr2⟩:=hr;go_upto_region 8 with (go_at_call 139;refine(iw _ _ _ _).mono ?_;rintro e w' ⟨rfl,rfl⟩)
     go_cut [37] (fun s37 wc=>∃z:Bool,s37=.bool z∧W1=wc∧Aside (z=true↔(k≠1∧m≠0)∨(k≠4∧o.size≠0)))
     case first=>
      cases hb1:(k !=1)<;>cases hb2:(m !=0)<;>cases hb3:(k !=4)<;>cases hb4:o.toList.isEmpty
      all_goals go_wp2_with fail
      all_goals (go_meet;refine⟨_,rfl,rfl,?_⟩;show _↔_;rw[bC]at hb4;simp only[bne_iff_ne,bne_eq_false_iff_eq,ne_eq,decide_eq_true_eq,decide_eq_false_iff_not]at hb1 hb2 hb3 hb4;(first|exact⟨(fun _=>(by omega)),(fun _=>rfl)⟩|exact⟨(fun h=>(by cases h)),(fun h=>(by omega))⟩))
     case rest=>
      obtain⟨z,rfl,rfl,hz⟩:=hcut;cases z with
      |true=>
       have HF:=Lib.hid (HO.out 4 (by show gK k m o s args.length=4;unfold gK;rw[if_neg (by omega),if_neg h8,if_pos (hz.out.1 rfl)]) (by decide));go_wp2_with fail;go_ret;exact⟨dh HF.out.symm,Hb0.out⟩
      |false=>
       have HZ:=Lib.hid (show ¬((k≠1∧m≠0)∨(k≠4∧o.size≠0))from fun h=>by have:=hz.out.2 h;cases this);clear hz;go_upto_block 0 with fail
       go_cut [6] (fun s6 wc=>∃z:Bool,s6=.bool z∧W1=wc∧Aside (z=wW k o s args.length))
       case first=>
        have hkk:k=1∨k=2∨k=3∨k=4∨k=5∨k=6∨k=7:=by omega
        rcases hkk with rfl|rfl|rfl|rfl|rfl|rfl|rfl
        all_goals go_wp2_with(first|(go_at_call 98;refine(fU _ _ (by assumption)).mono ?_;rintro e w' ⟨rfl,rfl⟩)|(go_at_call 205;refine(FN _ _ (by assumption)).mono ?_;rintro e w' ⟨rfl,rfl⟩))
        all_goals (go_meet;refine⟨_,rfl,rfl,?_⟩;show _=_;go_light;(try simp only[toList_nil]at *);rw[Bool.eq_iff_iff];simp_all [wW,bC];try omega)
       case rest=>
        obtain⟨z,rfl,rfl,hz⟩:=hcut;cases z with
        |false=>
         have HF:=Lib.hid (HO.out 4 (by show gK k m o s args.length=4;unfold gK;rw[if_neg (by omega),if_neg h8,if_neg HZ.out,if_pos hz.out.symm]) (by decide));go_wp2_with fail;go_ret;exact⟨dh HF.out.symm,Hb0.out⟩
        |true=>
         have HZ2:=Lib.hid (show ¬wW k o s args.length=false by rw[←hz.out];decide);clear hz;go_upto_region 25 with fail
         go_cut [108] (fun aor wc=>∃z:Bool,aor=.bool z∧W1=wc∧Aside (z=true↔k=1∧(m<0∨999999<m)))
         case first=>
          cases hb1:(k==1)<;>cases hb2:inB m 0 999999
          all_goals go_wp2_with(go_at_call 139;refine(iw _ _ _ _).mono ?_;rintro e w' ⟨rfl,rfl⟩)
          all_goals (go_meet;refine⟨_,rfl,rfl,?_⟩;show _↔_;simp[inB]at hb1 hb2⊢;try omega)
         case rest=>
          obtain⟨z,rfl,rfl,hz⟩:=hcut;cases z with
          |true=>
           have HF:=Lib.hid (HO.out 2 (by show gK k m o s args.length=2;unfold gK;rw[if_neg (by omega),if_neg h8,if_neg HZ.out,if_neg HZ2.out,if_pos (hz.out.1 rfl)]) (by decide));go_wp2_with fail;go_ret;exact⟨dh HF.out.symm,Hb0.out⟩
          |false=>
           have HF:=Lib.hid (show E=dL (iE f) args from HE.out.symm.trans (HAR.out (by show gK k m o s args.length=0;unfold gK;rw[if_neg (by omega),if_neg h8,if_neg HZ.out,if_neg HZ2.out,if_neg (fun h=>by have:=hz.out.2 h;cases this)])));clear hz;go_wp2_with fail;go_loopg [7,8] args.length (fun gg s7 _ wr=>∃kk:Nat,kk≤args.length∧args.length-kk≤gg∧s7=.int .i64 kk∧Aside (Below W1.heap.size W1 wr)∧Aside (∀j,j<kk→∀y,args[j]? =some y→iE f y=0))
           case atStart=>exact⟨0,Nat.zero_le _,by omega,rfl,Below.refl _ _,aside (fun j hj=>absurd hj (Nat.not_lt_zero _))⟩
           case round=>
            obtain⟨kk,hkk,hg,rfl,BW,Al⟩:=hrel;have hB1:=HB.out.later BW.out HB.out.lt;have y4:=hB1.at_ 4 _ rfl;have hbw:=Hb0.out.trans (BW.out.mono Hb0.out.size);clear hB1
            by_cases hlt:kk<args.length
            ·have hltz:(kk:Int)<(args.length:Int):=by omega
             obtain⟨b1,off,cs,rfl,hb,hcs,hr,hcell⟩:=(HAV.out.stays (BF.stays n) (fun _ h=>h) (Keeps.of_below hbw hF)).at_ hlt;obtain⟨c0,c1,c2,c3,c4,rfl⟩:=KI hcs;have hc0:=hcell 0 _ rfl;have hc1:=hcell 1 _ rfl;have hc2:=hcell 2 _ rfl;have hc3:=hcell 3 _ rfl;have hc4:=hcell 4 _ rfl;simp only[Nat.add_zero]at hc0;have hx:=aK hlt;generalize args[kk]=y at*;have HX:=ah hx;have hcl:=HIH.out y (d+1) [c0,c1,c2,c3,c4] F wr (by have:=HD.out;omega) (by omega) ⟨n,hr⟩ (bg hF hbw);obtain⟨z,hz⟩:∃z,iE f y=z:=⟨_,rfl⟩;rw[hz]at hcl;obtain⟨HZ3,HC,cO⟩:=ak hz hcl hbw;clear hx hcell hcl hz hbw hr hcs
             by_cases hz0:z=0
             ·subst hz0;go_wp2_with(go_at_call 210;refine HC.out.mono ?_;rintro e w' ⟨rfl,hb'⟩);go_roundg (args.length-(kk+1))
              case measure=>omega
              case rel=>exact⟨kk+1,by omega,by omega,by go_num,aside (BW.out.trans (hb'.mono BW.out.size)),aside (fO HX.out HZ3.out Al.out)⟩
             ·have hzn:(z !=0)=true:=by simp[hz0]
              go_wp2_with(go_at_call 210;refine HC.out.mono ?_;rintro e w' ⟨rfl,hb'⟩);go_ret;exact⟨dh (by rw[HF.out];exact(eP HX.out HZ3.out hz0 Al.out).symm),cO.out.trans (hb'.mono cO.out.size)⟩
            ·have hltz:¬(kk:Int)<(args.length:Int):=by omega
             obtain rfl:kk=args.length:=by omega
             have cO:=ah hbw;clear hbw;go_wp2_with fail;go_ret;exact⟨dh (by rw[HF.out];exact(fM Al.out).symm),cO.out⟩
   ·have hq:inB k 1 7=false:=by simp[inB];omega
    have HF:=Lib.hid (HO.out 3 (by show gK k m o s args.length=3;unfold gK;rw[if_pos (by omega)]) (by decide));clear hr;go_wp2_with(go_at_call 139;refine(iw _ _ _ _).mono ?_;rintro e w' ⟨rfl,rfl⟩);go_ret;exact⟨dh HF.out.symm,Hb0.out⟩
end Go.Proofs.YtjaladhdnbhliaaGreatDoor
