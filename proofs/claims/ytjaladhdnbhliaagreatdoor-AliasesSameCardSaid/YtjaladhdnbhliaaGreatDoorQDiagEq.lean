/- Parts. -/
import Derived.Test.YtjaladhdnbhliaaGreatDoorQLawChk
set_option maxHeartbeats 8000000
set_option maxRecDepth 100000
namespace Go.Proofs.YtjaladhdnbhliaaGreatDoor
open Go.Proofs.Tryz
open Go.RowKit Go.Shelf
theorem zS(v u:Value)(l m:List og)(F G:aV)(w:World)(hF:∀k,F k→k<w.heap.size)(hG:∀k,G k→k<w.heap.size)(hv:SliceOf bn 2 24 w F v l)(hu:SliceOf bn 2 24 w G u m):
  Calls prog 24 #[v,u] w fun e w'=>e=.returned (.bool (listEq rO l m))∧Below w.heap.size w w':=by
 obtain⟨A,cap,rfl,hlc,hcm,hl2,hl3⟩:=hv.form;obtain⟨A',cap',rfl,akU,hcm',oW,pG⟩:=hu.form
 by_cases hlen:l.length=m.length
 ·have hz:((l.length:Int)!=(m.length:Int))=false:=by simp[hlen]
  have HL:=ah hlen;have hle:m.length≤l.length:=by omega
  clear hlen;go_enter func24,ntmps24;go_wp2_with fail;go_loopg [5,13] l.length (fun gg _ s13 wr=>∃kk:Nat,kk≤l.length∧l.length-kk≤gg∧s13=.int .i64 kk∧Aside (Below w.heap.size w wr)∧Aside (∀j,j<kk→∀x y,l[j]? =some x→m[j]? =some y→rO x y=true))
  case atStart=>exact⟨0,Nat.zero_le _,by omega,rfl,Below.refl _ w,aside (fun j hj=>absurd hj (Nat.not_lt_zero _))⟩
  case round=>
   obtain⟨kk,hkk,hg,rfl,BW,A1⟩:=hrel
   by_cases hlt:kk<l.length
   ·have hltz:(kk:Int)<(l.length:Int):=by omega
    have hlt':kk<m.length:=by have:=HL.out;omega
    have ZR:(kk:Int)<(m.length:Int):=by omega
    obtain⟨b,off,cs,rfl,hb,hcs,⟨rfl,_,_⟩,hcell⟩:=(hv.up bn.stays hF BW.out).at_ hlt;obtain⟨b',off',cs',rfl,hb',hcs',⟨rfl,_,_⟩,hcell'⟩:=(hu.up bn.stays hG BW.out).at_ hlt';have hc0:=hcell 0 _ rfl;have hd0:=hcell' 0 _ rfl;have hc1:=hcell 1 _ rfl;have hd1:=hcell' 1 _ rfl;simp only[Nat.mul_one,Nat.add_zero]at hc0 hd0;clear hcell hcell' hv hu;have hx:=aK hlt;have hy:=aK hlt';generalize l[kk]=x at*;generalize m[kk]=y at*;have HX:=Lib.hid hx;have HY:=Lib.hid hy;clear hx hy;cases hq:rO x y with
    |true=>
     have HQ:=ah hq;have hE:=FB x y;rw[hq]at hE;clear hq;go_wp2_with fail;go_quiet(fail);go_wp2_with fail;go_roundg (l.length-(kk+1))
     case measure=>omega
     case rel=>exact⟨kk+1,by omega,by omega,by go_num,below_drewN BW.out _,aside (qx HX.out HY.out HQ.out A1.out)⟩
    |false=>
     have HQ:=ah hq;have hE:=FB x y;rw[hq]at hE;clear hq;go_wp2_with fail;go_quiet(fail);go_wp2_with fail;go_ret;exact⟨dw (jw HX.out HY.out HQ.out).symm,below_drewN BW.out _⟩
   ·have hltz:¬(kk:Int)<(l.length:Int):=by omega
    obtain rfl:kk=l.length:=by omega
    go_wp2_with fail;go_ret;exact⟨dw (tV HL.out A1.out).symm,BW.out⟩
 ·have hz:((l.length:Int)!=(m.length:Int))=true:=by simp;omega
  have HL:=ah hlen;clear hlen;go_enter func24,ntmps24;go_wp2_with fail;go_ret;exact⟨dw (oG HL.out).symm,Below.refl _ _⟩
open Go.ChangeShapes Go.WideShapes Go.ChangeAt
structure Raw where
 kind:Int
 a:Int
 b:Int
 c:Int
def aaI:CR Raw:=fun _ _ cs x=>cs= [.int .i64 x.kind,.int .i64 x.a,.int .i64 x.b,.int .i64 x.c]∧I64 x.kind∧I64 x.a∧I64 x.b∧I64 x.c
theorem aaI.stays:eH aaI:=fun _ _ _ _ _ _ h _ _=>h
theorem Tryz.aaR:prog.cellsOf 56=4:=by kernel_rfl
theorem Hl{N:Nat}:Opens N prog aaI 56:=by
 intro H enc w fuel cs d ps hN h hb hw;obtain⟨xs,n,_,_,hl,_,_⟩:=DataW.trod_struct underlying56 h;rw[Tryz.aaR]at hl;obtain⟨c0,c1,c2,c3,rfl⟩:=xU hl;obtain⟨x0,e0,z0⟩:=iG underlying56 h hb hw hN 0 _ rfl 3 0 1 rfl rfl Tryz.Bd JB;obtain⟨x1,e1,z1⟩:=iG underlying56 h hb hw hN 1 _ rfl 3 1 1 rfl rfl Tryz.Bd JB;obtain⟨x2,e2,z2⟩:=iG underlying56 h hb hw hN 2 _ rfl 3 2 1 rfl rfl Tryz.Bd JB;obtain⟨x3,e3,z3⟩:=iG underlying56 h hb hw hN 3 _ rfl 3 3 1 rfl rfl Tryz.Bd JB;obtain rfl:c0=.int .i64 x0:=by injection e0
 obtain rfl:c1=.int .i64 x1:=by injection e1
 obtain rfl:c2=.int .i64 x2:=by injection e2
 obtain rfl:c3=.int .i64 x3:=by injection e3
 exact⟨⟨x0,x1,x2,x3⟩,rfl,z0,z1,z2,z3⟩
open Go.ChangeMaps (open_string)
theorem Dt(x:Raw)(h1:I64 x.a)(h2:I64 x.b)(w:World):Calls prog 23 #[.agg #[.int .i64 x.kind,.int .i64 x.a,.int .i64 x.b,.int .i64 x.c]] w fun e w'=>e=.returned (.string (xu (oP x.a 4) (oP x.b 3)))∧Below w.heap.size w w':=by
 have hp1:∀W,Calls prog 20 #[.int .i64 x.a,.int .i64 4] W fun e w'=>e=.returned (.int .i64 (oP x.a 4))∧W=w':=fun W=>DV x.a 4 (by decide) h1 W
 have hp2:∀W,Calls prog 20 #[.int .i64 x.b,.int .i64 3] W fun e w'=>e=.returned (.int .i64 (oP x.b 3))∧W=w':=fun W=>DV x.b 3 (by decide) h2 W
 have hn:=pO x.a (many:=4) (by decide);have hk:=pO x.b (many:=3) (by decide);rw[←YC];generalize oP x.a 4=n at*;generalize oP x.b 3=k at*;have hr1:=fun W=>Tryz.strings_Repeat ⟨#[91]⟩ n W (by omega) (by show 1*n≤_;omega)
 have hr2:=fun W=>Tryz.strings_Repeat ⟨#[93]⟩ n W (by omega) (by show 1*n≤_;omega)
 rw[show(⟨#[91]⟩:ByteArray).data.toList= [91]from rfl]at hr1;rw[show(⟨#[93]⟩:ByteArray).data.toList= [93]from rfl]at hr2;have hs1:(⟨(Lib.repeatL [91] n).toArray⟩:ByteArray).size≤4:=by rw[mW,wL,Lib.repeatL_length];simp;omega
 have hs2:(⟨(Lib.repeatL [93] n).toArray⟩:ByteArray).size≤4:=by rw[mW,wL,Lib.repeatL_length];simp;omega
 generalize(⟨(Lib.repeatL [91] n).toArray⟩:ByteArray)=n1 at*;generalize(⟨(Lib.repeatL [93] n).toArray⟩:ByteArray)=n2 at*;have q1:∀j,¬9223372036854775807<n1.size+(wM j).size:=fun j=>by obtain⟨_,_,_,_,_,h,_⟩:=J9 j;omega
 have q2:∀j,¬9223372036854775807<n1.size+(wM j).size+n2.size:=fun j=>by obtain⟨_,_,_,_,_,h,_⟩:=J9 j;omega
 obtain⟨Xt,HP2,HR1,HR2,Q1,Q2⟩:=aA hp1 hp2 hr1 hr2 q1 q2;clear hp1 hp2 hr1 hr2 q1 q2;have hk3:k=0∨k=1∨k=2:=by omega
 clear hk hn hs1 hs2;rcases hk3 with rfl|rfl|rfl
 ·have s1:=Q1.out 0;have s2:=Q2.out 0;rw[show(wM 0).size=3 from rfl]at s1 s2;rw[show wM 0=⟨#[105,110,116]⟩from rfl];go_enter func23,ntmps23;go_upto_region 1 with fail
  have hBb:=Box.made w 56 #[.int .i64 x.kind,.int .i64 x.a,.int .i64 x.b,.int .i64 x.c];have hbb:Below w.heap.size w (w.alloc (.cells #[.int .i64 x.kind,.int .i64 x.a,.int .i64 x.b,.int .i64 x.c] 56)):=by go_grown
  have hzb:(w.alloc (.cells #[.int .i64 x.kind,.int .i64 x.a,.int .i64 x.b,.int .i64 x.c] 56)).heap.size=w.heap.size+1:=by simp
  generalize w.alloc (.cells #[.int .i64 x.kind,.int .i64 x.a,.int .i64 x.b,.int .i64 x.c] 56)=W1 at hBb hbb hzb⊢;have x1:=hBb.at_ 1 _ rfl;have x2:=hBb.at_ 2 _ rfl;have hx7:Box W1.drew w.heap.size 56 #[.int .i64 x.kind,.int .i64 x.a,.int .i64 x.b,.int .i64 x.c]:=hBb.drew;have nV:Below w.heap.size w W1.drew:=hbb.trans (by go_grown);have x2:=hx7.at_ 2 _ rfl;have uI:=hx7.lt;have hbq:=hbb;have hlw:=hBb.lt;clear hzb hBb hbb;go_wp2_with fail;refine(Xt.out _).mono ?_;rintro e W2 ⟨rfl,rfl⟩;go_upto_region 2 with fail
  go_region_with (first
   |(go_at_call 54;with_reducible refine(HR1.out _).mono ?_;rintro e w7 ⟨rfl,hb7⟩;(first|(have qo:=Box.later qo hb7 qo.lt)|(have qo:=iI hb7)|(have qo:=gI hb7)|skip);(first|(have hx7:=Box.later hx7 hb7 hx7.lt)|(have hx7:=Box.later (hx7.alloc _) hb7 (hx7.alloc _).lt)|(have hx7:=Box.later (hx7.alloc _).drew hb7 (hx7.alloc _).drew.lt));(try have z0:=qo.at_ 0 _ rfl);(try have z1:=qo.at_ 1 _ rfl);(try have z2:=qo.at_ 2 _ rfl);have x2:=hx7.at_ 2 _ rfl;have uI:=hx7.lt;(first|(have nV:=nV.trans (hb7.mono nV.size))|(have nV:=(nV.alloc nV.size _).trans (hb7.mono (nV.alloc nV.size _).size))|(have nV:=hbq.trans ((iJ hb7).mono hbq.size)));clear hb7)
   |(go_at_call 54;with_reducible refine(HR2.out _).mono ?_;rintro e w7 ⟨rfl,hb7⟩;(first|(have qo:=Box.later qo hb7 qo.lt)|(have qo:=iI hb7)|(have qo:=gI hb7)|skip);(first|(have hx7:=Box.later hx7 hb7 hx7.lt)|(have hx7:=Box.later (hx7.alloc _) hb7 (hx7.alloc _).lt)|(have hx7:=Box.later (hx7.alloc _).drew hb7 (hx7.alloc _).drew.lt));(try have z0:=qo.at_ 0 _ rfl);(try have z1:=qo.at_ 1 _ rfl);(try have z2:=qo.at_ 2 _ rfl);have x2:=hx7.at_ 2 _ rfl;have uI:=hx7.lt;(first|(have nV:=nV.trans (hb7.mono nV.size))|(have nV:=(nV.alloc nV.size _).trans (hb7.mono (nV.alloc nV.size _).size))|(have nV:=hbq.trans ((iJ hb7).mono hbq.size)));clear hb7)
   |(go_at_call 20;with_reducible refine(HP2.out _).mono ?_;rintro e w7 ⟨rfl,rfl⟩))
  all_goals
   go_wp2_with fail;go_ret;refine⟨rfl,?_⟩;first|exact nV|exact nV.alloc nV.size _
 ·have s1:=Q1.out 1;have s2:=Q2.out 1;rw[show(wM 1).size=4 from rfl]at s1 s2;rw[show wM 1=⟨#[116,101,120,116]⟩from rfl];go_enter func23,ntmps23;go_upto_region 1 with fail
  have hBb:=Box.made w 56 #[.int .i64 x.kind,.int .i64 x.a,.int .i64 x.b,.int .i64 x.c];have hbb:Below w.heap.size w (w.alloc (.cells #[.int .i64 x.kind,.int .i64 x.a,.int .i64 x.b,.int .i64 x.c] 56)):=by go_grown
  have hzb:(w.alloc (.cells #[.int .i64 x.kind,.int .i64 x.a,.int .i64 x.b,.int .i64 x.c] 56)).heap.size=w.heap.size+1:=by simp
  generalize w.alloc (.cells #[.int .i64 x.kind,.int .i64 x.a,.int .i64 x.b,.int .i64 x.c] 56)=W1 at hBb hbb hzb⊢;have x1:=hBb.at_ 1 _ rfl;have x2:=hBb.at_ 2 _ rfl;have hx7:Box W1.drew w.heap.size 56 #[.int .i64 x.kind,.int .i64 x.a,.int .i64 x.b,.int .i64 x.c]:=hBb.drew;have nV:Below w.heap.size w W1.drew:=hbb.trans (by go_grown);have x2:=hx7.at_ 2 _ rfl;have uI:=hx7.lt;have hbq:=hbb;have hlw:=hBb.lt;clear hzb hBb hbb;go_wp2_with fail;refine(Xt.out _).mono ?_;rintro e W2 ⟨rfl,rfl⟩;go_upto_region 2 with fail
  go_region_with (first
   |(go_at_call 54;with_reducible refine(HR1.out _).mono ?_;rintro e w7 ⟨rfl,hb7⟩;(first|(have qo:=Box.later qo hb7 qo.lt)|(have qo:=iI hb7)|(have qo:=gI hb7)|skip);(first|(have hx7:=Box.later hx7 hb7 hx7.lt)|(have hx7:=Box.later (hx7.alloc _) hb7 (hx7.alloc _).lt)|(have hx7:=Box.later (hx7.alloc _).drew hb7 (hx7.alloc _).drew.lt));(try have z0:=qo.at_ 0 _ rfl);(try have z1:=qo.at_ 1 _ rfl);(try have z2:=qo.at_ 2 _ rfl);have x2:=hx7.at_ 2 _ rfl;have uI:=hx7.lt;(first|(have nV:=nV.trans (hb7.mono nV.size))|(have nV:=(nV.alloc nV.size _).trans (hb7.mono (nV.alloc nV.size _).size))|(have nV:=hbq.trans ((iJ hb7).mono hbq.size)));clear hb7)
   |(go_at_call 54;with_reducible refine(HR2.out _).mono ?_;rintro e w7 ⟨rfl,hb7⟩;(first|(have qo:=Box.later qo hb7 qo.lt)|(have qo:=iI hb7)|(have qo:=gI hb7)|skip);(first|(have hx7:=Box.later hx7 hb7 hx7.lt)|(have hx7:=Box.later (hx7.alloc _) hb7 (hx7.alloc _).lt)|(have hx7:=Box.later (hx7.alloc _).drew hb7 (hx7.alloc _).drew.lt));(try have z0:=qo.at_ 0 _ rfl);(try have z1:=qo.at_ 1 _ rfl);(try have z2:=qo.at_ 2 _ rfl);have x2:=hx7.at_ 2 _ rfl;have uI:=hx7.lt;(first|(have nV:=nV.trans (hb7.mono nV.size))|(have nV:=(nV.alloc nV.size _).trans (hb7.mono (nV.alloc nV.size _).size))|(have nV:=hbq.trans ((iJ hb7).mono hbq.size)));clear hb7)
   |(go_at_call 20;with_reducible refine(HP2.out _).mono ?_;rintro e w7 ⟨rfl,rfl⟩))
  all_goals
   go_wp2_with fail;go_ret;refine⟨rfl,?_⟩;first|exact nV|exact nV.alloc nV.size _
 ·have s1:=Q1.out 2;have s2:=Q2.out 2;rw[show(wM 2).size=1 from rfl]at s1 s2;rw[show wM 2=⟨#[42]⟩from rfl];go_enter func23,ntmps23;go_upto_region 1 with fail
  have hBb:=Box.made w 56 #[.int .i64 x.kind,.int .i64 x.a,.int .i64 x.b,.int .i64 x.c];have hbb:Below w.heap.size w (w.alloc (.cells #[.int .i64 x.kind,.int .i64 x.a,.int .i64 x.b,.int .i64 x.c] 56)):=by go_grown
  have hzb:(w.alloc (.cells #[.int .i64 x.kind,.int .i64 x.a,.int .i64 x.b,.int .i64 x.c] 56)).heap.size=w.heap.size+1:=by simp
  generalize w.alloc (.cells #[.int .i64 x.kind,.int .i64 x.a,.int .i64 x.b,.int .i64 x.c] 56)=W1 at hBb hbb hzb⊢;have x1:=hBb.at_ 1 _ rfl;have x2:=hBb.at_ 2 _ rfl;have hx7:Box W1.drew w.heap.size 56 #[.int .i64 x.kind,.int .i64 x.a,.int .i64 x.b,.int .i64 x.c]:=hBb.drew;have nV:Below w.heap.size w W1.drew:=hbb.trans (by go_grown);have x2:=hx7.at_ 2 _ rfl;have uI:=hx7.lt;have hbq:=hbb;have hlw:=hBb.lt;clear hzb hBb hbb;go_wp2_with fail;refine(Xt.out _).mono ?_;rintro e W2 ⟨rfl,rfl⟩;go_upto_region 2 with fail
  go_region_with (first
   |(go_at_call 54;with_reducible refine(HR1.out _).mono ?_;rintro e w7 ⟨rfl,hb7⟩;(first|(have qo:=Box.later qo hb7 qo.lt)|(have qo:=iI hb7)|(have qo:=gI hb7)|skip);(first|(have hx7:=Box.later hx7 hb7 hx7.lt)|(have hx7:=Box.later (hx7.alloc _) hb7 (hx7.alloc _).lt)|(have hx7:=Box.later (hx7.alloc _).drew hb7 (hx7.alloc _).drew.lt));(try have z0:=qo.at_ 0 _ rfl);(try have z1:=qo.at_ 1 _ rfl);(try have z2:=qo.at_ 2 _ rfl);have x2:=hx7.at_ 2 _ rfl;have uI:=hx7.lt;(first|(have nV:=nV.trans (hb7.mono nV.size))|(have nV:=(nV.alloc nV.size _).trans (hb7.mono (nV.alloc nV.size _).size))|(have nV:=hbq.trans ((iJ hb7).mono hbq.size)));clear hb7)
   |(go_at_call 54;with_reducible refine(HR2.out _).mono ?_;rintro e w7 ⟨rfl,hb7⟩;(first|(have qo:=Box.later qo hb7 qo.lt)|(have qo:=iI hb7)|(have qo:=gI hb7)|skip);(first|(have hx7:=Box.later hx7 hb7 hx7.lt)|(have hx7:=Box.later (hx7.alloc _) hb7 (hx7.alloc _).lt)|(have hx7:=Box.later (hx7.alloc _).drew hb7 (hx7.alloc _).drew.lt));(try have z0:=qo.at_ 0 _ rfl);(try have z1:=qo.at_ 1 _ rfl);(try have z2:=qo.at_ 2 _ rfl);have x2:=hx7.at_ 2 _ rfl;have uI:=hx7.lt;(first|(have nV:=nV.trans (hb7.mono nV.size))|(have nV:=(nV.alloc nV.size _).trans (hb7.mono (nV.alloc nV.size _).size))|(have nV:=hbq.trans ((iJ hb7).mono hbq.size)));clear hb7)
   |(go_at_call 20;with_reducible refine(HP2.out _).mono ?_;rintro e w7 ⟨rfl,rfl⟩))
  all_goals
   go_wp2_with fail;go_ret;refine⟨rfl,?_⟩;first|exact nV|exact nV.alloc nV.size _
end Go.Proofs.YtjaladhdnbhliaaGreatDoor
