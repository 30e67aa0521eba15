/- Parts. -/
import Derived.Test.YtjaladhdnbhliaaGreatDoorQCheckRef
set_option maxHeartbeats 4000000
namespace Go.Proofs.YtjaladhdnbhliaaGreatDoor
open Go.Proofs.Tryz
open Go.RowKit Go.Shelf
set_option maxRecDepth 100000 in
theorem DF(s:ByteArray)(v:Value)(l:List Import)(mx:Int)(W:World)(_hs:s.size≤140737488355328)(hl:SliceOf aU 4 72 W (old W.heap.size) v l)(hT:Tabs W mx):
  Calls prog 5 #[.string s,v] W fun e w'=>e=.returned (.bool true)∧Below W.heap.size W w':=by
 have hc:=yY s l v mx W hT hl;have hd:=fun U (hU:Below W.heap.size W U)=>NP s l v U (bK aU.stays hl hU)
 obtain⟨L1,l1,rfl,_⟩:=hl.form;obtain⟨⟨E,D,k⟩,hE⟩:∃z,iq s l=z:=⟨_,rfl⟩;rw[hE]at hc;simp only[hE]at hd;obtain⟨HC,HD⟩:=aj hc hd;clear hc hd;clear hl hT hE;go_enter func5,ntmps5;go_wp2_with fail;refine HC.out.mono ?_;rintro e W3 ⟨q3,u3,rfl,hb3,hr3,hs3⟩;dsimp only at hr3 hs3⊢;obtain⟨A3,n3,A3',n3',rfl⟩:=bD.form hr3;obtain⟨A4,n4,rfl,_⟩:=hs3.form;obtain⟨fV,HR3,NI⟩:=ak hb3 hr3 hs3;clear hb3 hr3 hs3;go_upto_region 2 with fail
 have hBs:=Box.made W3 42 #[.slice A3 E.types.length n3,.slice A3' E.funcs.length n3'];have hbs:Below W3.heap.size W3 (W3.alloc (.cells #[.slice A3 E.types.length n3,.slice A3' E.funcs.length n3'] 42)):=by go_grown
 have hzs:(W3.alloc (.cells #[.slice A3 E.types.length n3,.slice A3' E.funcs.length n3'] 42)).heap.size=W3.heap.size+1:=by simp
 generalize W3.alloc (.cells #[.slice A3 E.types.length n3,.slice A3' E.funcs.length n3'] 42)=W4 at hBs hbs hzs⊢;have hr4:=bD.stays.later HR3.out hbs cZ;have hs4:=NI.out.up bn.stays cZ hbs;have hbw:=fV.out.trans (hbs.mono fV.out.size);have Ir:=hbs.size;obtain⟨pY,HR4,Ia,Qz,HZ4⟩:=ay hbw hr4 hs4 hBs Ir;clear hbw hr4 hs4 hBs Ir;clear hbs hzs;go_wp2_with fail;refine(HD.out _ pY.out).mono ?_;rintro e W5 ⟨q5,u5,rfl,hb5,jM,hs5⟩;dsimp only at jM hs5⊢;obtain⟨A5,n5,A5',n5',rfl⟩:=bD.form jM;obtain⟨A6,n6,rfl,_⟩:=hs5.form;have QO:=Qz.out.later hb5 Qz.out.lt;have hf3:∀k,fresh W.heap.size W3.heap.size k→k<W4.heap.size:=fun k hk=>Nat.lt_of_lt_of_le hk.2 HZ4.out
 have ak9:=bD.stays.later HR4.out hb5 hf3;have alc:=Ia.out.up bn.stays hf3 hb5;have hbw:=pY.out.trans (hb5.mono pY.out.size);have GR:=hb5.size;obtain⟨oh,Gj,F5,aco,amU,am3,HZ5⟩:=aB hbw jM hs5 QO ak9 alc GR;clear hbw jM hs5 QO ak9 alc GR;clear hb5;go_upto_region 3 with fail
 have hBt:=Box.made W5 42 #[.slice A5 E.types.length n5,.slice A5' E.funcs.length n5'];have hbt:Below W5.heap.size W5 (W5.alloc (.cells #[.slice A5 E.types.length n5,.slice A5' E.funcs.length n5'] 42)):=by go_grown
 have pW:(W5.alloc (.cells #[.slice A5 E.types.length n5,.slice A5' E.funcs.length n5'] 42)).heap.size=W5.heap.size+1:=by simp
 generalize W5.alloc (.cells #[.slice A5 E.types.length n5,.slice A5' E.funcs.length n5'] 42)=W6 at hBt hbt pW⊢;have ahS:=aco.out.later hbt aco.out.lt;have hf4:∀k,fresh W.heap.size W3.heap.size k→k<W5.heap.size:=fun k hk=>Nat.lt_of_lt_of_le (hf3 k hk) HZ5.out
 have rF:=bD.stays.later Gj.out hbt cZ;have hs6:=F5.out.up bn.stays cZ hbt;have ala:=bD.stays.later amU.out hbt hf4;have ald:=am3.out.up bn.stays hf4 hbt;have hbw:=oh.out.trans (hbt.mono oh.out.size);have HX:=Lib.hid (RZ E E _ _ _ _ W6 (bg hf4 hbt) (bg cZ hbt) ala rF);have HY:=Lib.hid (fun U (hU:Below W6.heap.size W6 U)=>Y5 (.slice A4 D.length n4) (.slice A6 D.length n6) D D _ _ U (bg (bg hf4 hbt) hU) (bg (bg cZ hbt) hU) (ald.up bn.stays (bg hf4 hbt) hU) (hs6.up bn.stays (bg cZ hbt) hU));have s0:=ahS.at_ 0 _ rfl;have s1:=ahS.at_ 1 _ rfl;have t0:=hBt.at_ 0 _ rfl;have t1:=hBt.at_ 1 _ rfl;have BG:=ah hbw;clear hbw;clear rF hs6 ala ald ahS hBt hbt pW hf3 hf4;go_wp2_with fail;refine HX.out.mono ?_;rintro e W7 ⟨rfl,hb7⟩;have KU:=BG.out.trans (hb7.mono BG.out.size);have hfe:rP E E=true:=Ut _;have hy:=HY.out W7 hb7;rw[qZ Uj]at hy;rw[hfe];obtain⟨HYY,JI⟩:=aj hy KU;clear hy KU;clear hfe hb7;go_wp2_with fail;refine HYY.out.mono ?_;rintro e W8 ⟨rfl,hb8⟩;go_wp2_with fail;go_ret;exact⟨by simp,JI.out.trans (hb8.mono JI.out.size)⟩
end Go.Proofs.YtjaladhdnbhliaaGreatDoor
