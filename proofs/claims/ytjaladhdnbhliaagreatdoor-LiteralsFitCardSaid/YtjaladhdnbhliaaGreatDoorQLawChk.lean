/- Parts. -/
import Derived.Test.YtjaladhdnbhliaaGreatDoorQModCheck
set_option maxHeartbeats 4000000
namespace Go.Proofs.YtjaladhdnbhliaaGreatDoor
open Go.Proofs.Tryz
open Go.RowKit Go.Shelf
theorem check_nil(s:ByteArray):(iq s []).2.2=0:=by
 have h:bG []=0:=rfl
 by_cases hr:(kF s).2=0
 ·rw[EF h hr]
 ·rw[sN h hr]
def Tz(E:gU×List og×Int)(w:World)(e:Ending)(w':World):Prop:=∃(T1:Option Addr) (c1:Nat) (T2:Option Addr) (c2:Nat) (D:Option Addr) (d:Nat),e=.returned (.tuple #[.agg #[.slice T1 E.1.types.length c1,.slice T2 E.1.funcs.length c2],.slice D E.2.1.length d,.bool true])∧Below w.heap.size w w'∧
 bD w' (fresh w.heap.size w'.heap.size) [.slice T1 E.1.types.length c1,.slice T2 E.1.funcs.length c2] E.1∧SliceOf bn 2 24 w' (fresh w.heap.size w'.heap.size) (.slice D E.2.1.length d) E.2.1
set_option maxRecDepth 100000 in
theorem zN(s:ByteArray)(mx:Int)(W:World)(hT:Tabs W mx):Calls prog 21 #[.string s] W (Tz (iq s []) W):=by
 have hc:=fun U (hU:Below W.heap.size W U)=>yY s [] (.slice none 0 0) mx U (hT.later hU) SliceOf.nil_
 have hz:=check_nil s;obtain⟨⟨E,D,k⟩,hE⟩:∃z,iq s []=z:=⟨_,rfl⟩;rw[hE]at hz⊢;simp only[hE]at hc;dsimp only at hz;subst hz;have HC:=ah hc;clear hc;clear hT hE;go_enter func21,ntmps21;go_upto_region 1 with fail
 have hBr:=Box.made W 42 #[.slice none 0 0,.slice none 0 0];have hbr:Below W.heap.size W (W.alloc (.cells #[.slice none 0 0,.slice none 0 0] 42)):=by go_grown
 have kJ:(W.alloc (.cells #[.slice none 0 0,.slice none 0 0] 42)).heap.size=W.heap.size+1:=by simp
 generalize W.alloc (.cells #[.slice none 0 0,.slice none 0 0] 42)=W1 at hBr hbr kJ⊢;obtain⟨HR1,Hb1⟩:=aj hBr hbr;clear hBr hbr;clear kJ;go_wp2_with fail;refine(HC.out _ Hb1.out).mono ?_;rintro e W2 ⟨cs,u,rfl,hb2,hf2,hs2⟩;dsimp only at hf2 hs2⊢;obtain⟨A3,n3,A3',n3',rfl⟩:=bD.form hf2;obtain⟨A4,n4,rfl,_⟩:=hs2.form;have hr2:=HR1.out.later hb2 HR1.out.lt;have hbw2:=Hb1.out.trans (hb2.mono Hb1.out.size);have hs1:=HR1.out.lt;obtain⟨HR2,HB2,HF2,HS2⟩:=au hr2 hbw2 hf2 hs2;clear hr2 hbw2 hf2 hs2;clear hb2 HR1 Hb1;go_upto_region 2 with fail
 have Di:=Box.made W2 42 #[.slice A3 E.types.length n3,.slice A3' E.funcs.length n3'];have ni:Below W2.heap.size W2 (W2.alloc (.cells #[.slice A3 E.types.length n3,.slice A3' E.funcs.length n3'] 42)):=by go_grown
 have Iu:(W2.alloc (.cells #[.slice A3 E.types.length n3,.slice A3' E.funcs.length n3'] 42)).heap.size=W2.heap.size+1:=by simp
 generalize W2.alloc (.cells #[.slice A3 E.types.length n3,.slice A3' E.funcs.length n3'] 42)=W3 at Di ni Iu⊢;have hr3:=HR2.out.later ni HR2.out.lt;have hbw3:=HB2.out.trans (ni.mono HB2.out.size);have hf3:=bD.stays.later HF2.out ni cZ;have hs3:=HS2.out.up bn.stays cZ ni;have hz3:=ni.size;have hrl:=hr3.lt;have o0:=Di.at_ 0 _ rfl;have o1:=Di.at_ 1 _ rfl;have x0:=hr3.at_ 0 _ rfl;have x1:=hr3.at_ 1 _ rfl;have g0:=hr3.free 0;have g1:=hr3.free 1;obtain⟨cO,HF3,NI⟩:=ak hbw3 hf3 hs3;clear hbw3 hf3 hs3;clear ni Iu Di hr3 HR2 HB2 HF2 HS2;go_wp2_with fail;refine bodyPost_ret (v:=.tuple #[.agg #[.slice A3 E.types.length n3,.slice A3' E.funcs.length n3'],.slice A4 D.length n4,.bool true]) (by simp[results,results21,go_sem,x0,x1]) rfl ?_;have hno:¬fresh W1.heap.size W2.heap.size W.heap.size:=fun h=>by have:=h.1;omega
 refine⟨A3,n3,A3',n3',A4,n4,rfl,(cO.out.setCell (aJ _) _).setCell (aJ _) _,?_,?_⟩
 ·exact eH.wider bD.stays (bD.stays.set (bD.stays.set HF3.out (p:=⟨W.heap.size,0,none⟩) hno _) (p:=⟨W.heap.size,1,none⟩) hno _) (fun k hk=>⟨by have:=hk.1;omega,by simp only[size_set];have:=hk.2;omega⟩)
 ·exact SliceOf.stays bn.stays NI.out (fun k hk=>⟨by have:=hk.1;omega,by simp only[size_set];have:=hk.2;omega⟩) (((Keeps.refl _ _).setCell (q:=⟨W.heap.size,0,none⟩) hno _).setCell (q:=⟨W.heap.size,1,none⟩) hno _)
def RD(i:Nat):ByteArray:=if i=0 then pI else nP
def RF(g:Nat):ByteArray:=if g=0 then⟨#[55]⟩else⟨#[34,120,34]⟩
def abr(K L:ByteArray):ByteArray:=⟨#[102,117,110,99,32,97,40,41,58,32]⟩++K++⟨#[32,61,32]⟩++L++⟨#[10,102,117,110,99,32,98,40,41,58,32,91]⟩++K++⟨#[93,32,61,32,91]⟩++L++⟨#[44,32]⟩++L++⟨#[93,10,102,117,110,99,32,99,40,41,58,32]⟩++K++⟨#[32,61,32,40,91]⟩++L++⟨#[93,41,91,48,93,10,102,117,110,99,32,100,40,112,58,32]⟩++K++⟨#[41,58,32]⟩++K++⟨#[32,61,32,112,32,43,32]⟩++L++⟨#[10]⟩
theorem ad8:∀i,i<2→∀g,g<2→(iq (abr (RD i) (RF g)) []).2.2=0∧(iq (abr (RD i) (RF g)) []).2.1.length=(if i=g then 0 else 4)∧(iq (abr (RD i) (RF g)) []).2.1.all (fun x=>x.code==8)=true:=by decide +kernel
def swapT(n k:Nat)(b:ByteArray):ByteArray:=lit (Lib.replaceAll (xu n k).data.toList [42] b.data.toList)
def N7(n k:Nat):ByteArray:=swapT n k pI
def noT(n k:Nat):ByteArray:=swapT n k nP
def aez(I O:ByteArray):ByteArray:=⟨([102,117,110,99,32,111,110,101,60,116,62,40,112,58,32,116,41,58,32,91,116,93,32,61,32,91,112,93,10,102,117,110,99,32,116,119,111].append [60,116,62,40,112,58,32,116,44,32,113,58,32,91,116,93,41,58,32,116,32,61,32,113,91,48,93,10,102,117,110,99,32,97,40,112,58,32]).toArray⟩++I++⟨#[41,58,32,91]⟩++I++⟨#[93,32,61,32,111,110,101,40,112,41,10,102,117,110,99,32,98,40,112,58,32]⟩++I++⟨#[41,58,32]⟩++I++⟨#[32,61,32,116,119,111,40,112,44,32,111,110,101,40,112,41,41,10,102,117,110,99,32,99,40,112,58,32]⟩++I++⟨#[44,32,113,58,32]⟩++O++⟨#[41,58,32]⟩++I++⟨#[32,61,32,116,119,111,40,112,44,32,111,110,101,40,113,41,41,10,102,117,110,99,32,100,60,116,62,40,112,58,32,116,41,58,32,105,110,116,32,61,32,112,10]⟩
def als(I O:ByteArray):List og:=if iT I O=true then[⟨⟨#[100]⟩,8⟩]else[⟨⟨#[99]⟩,8⟩,⟨⟨#[100]⟩,8⟩]
def fA(n k p q:Nat):Prop:=(iq (aez (N7 n k) (noT p q)) []).2.2=0∧listEq rO (iq (aez (N7 n k) (noT p q)) []).2.1 (als (N7 n k) (noT p q))=true
instance (n k p q:Nat):Decidable (fA n k p q):=by unfold fA;exact inferInstance
theorem VZ:∀q,q<3→fA 0 0 0 q:=by decide +kernel
theorem V4:∀q,q<3→fA 0 0 1 q:=by decide +kernel
theorem V5:∀q,q<3→fA 0 0 2 q:=by decide +kernel
theorem V6:∀q,q<3→fA 0 0 3 q:=by decide +kernel
theorem V7:∀q,q<3→fA 0 1 0 q:=by decide +kernel
theorem V8:∀q,q<3→fA 0 1 1 q:=by decide +kernel
theorem V9:∀q,q<3→fA 0 1 2 q:=by decide +kernel
theorem Wh:∀q,q<3→fA 0 1 3 q:=by decide +kernel
theorem Wi:∀q,q<3→fA 0 2 0 q:=by decide +kernel
theorem Wj:∀q,q<3→fA 0 2 1 q:=by decide +kernel
theorem Wn:∀q,q<3→fA 0 2 2 q:=by decide +kernel
theorem Wp:∀q,q<3→fA 0 2 3 q:=by decide +kernel
theorem Ws:∀q,q<3→fA 1 0 0 q:=by decide +kernel
theorem Wu:∀q,q<3→fA 1 0 1 q:=by decide +kernel
theorem Wv:∀q,q<3→fA 1 0 2 q:=by decide +kernel
theorem Wy:∀q,q<3→fA 1 0 3 q:=by decide +kernel
theorem WB:∀q,q<3→fA 1 1 0 q:=by decide +kernel
theorem WC:∀q,q<3→fA 1 1 1 q:=by decide +kernel
theorem WE:∀q,q<3→fA 1 1 2 q:=by decide +kernel
theorem WG:∀q,q<3→fA 1 1 3 q:=by decide +kernel
theorem WH:∀q,q<3→fA 1 2 0 q:=by decide +kernel
theorem WI:∀q,q<3→fA 1 2 1 q:=by decide +kernel
theorem WJ:∀q,q<3→fA 1 2 2 q:=by decide +kernel
theorem WM:∀q,q<3→fA 1 2 3 q:=by decide +kernel
theorem WO:∀q,q<3→fA 2 0 0 q:=by decide +kernel
theorem WQ:∀q,q<3→fA 2 0 1 q:=by decide +kernel
theorem WR:∀q,q<3→fA 2 0 2 q:=by decide +kernel
theorem WS:∀q,q<3→fA 2 0 3 q:=by decide +kernel
theorem WT:∀q,q<3→fA 2 1 0 q:=by decide +kernel
theorem WU:∀q,q<3→fA 2 1 1 q:=by decide +kernel
theorem WV:∀q,q<3→fA 2 1 2 q:=by decide +kernel
theorem WW:∀q,q<3→fA 2 1 3 q:=by decide +kernel
theorem WX:∀q,q<3→fA 2 2 0 q:=by decide +kernel
theorem WY:∀q,q<3→fA 2 2 1 q:=by decide +kernel
theorem WZ:∀q,q<3→fA 2 2 2 q:=by decide +kernel
theorem Xa:∀q,q<3→fA 2 2 3 q:=by decide +kernel
theorem Xb:∀q,q<3→fA 3 0 0 q:=by decide +kernel
theorem Xc:∀q,q<3→fA 3 0 1 q:=by decide +kernel
theorem Xd:∀q,q<3→fA 3 0 2 q:=by decide +kernel
theorem Xe:∀q,q<3→fA 3 0 3 q:=by decide +kernel
theorem Xf:∀q,q<3→fA 3 1 0 q:=by decide +kernel
theorem Xg:∀q,q<3→fA 3 1 1 q:=by decide +kernel
theorem Xh:∀q,q<3→fA 3 1 2 q:=by decide +kernel
theorem Xi:∀q,q<3→fA 3 1 3 q:=by decide +kernel
theorem Xj:∀q,q<3→fA 3 2 0 q:=by decide +kernel
theorem Xk:∀q,q<3→fA 3 2 1 q:=by decide +kernel
theorem Xl:∀q,q<3→fA 3 2 2 q:=by decide +kernel
theorem Xm:∀q,q<3→fA 3 2 3 q:=by decide +kernel
theorem aeA:∀n,n<4→∀k,k<3→∀p,p<4→∀q,q<3→fA n k p q
 |0,_,0,_,0,_=>VZ
 |0,_,0,_,1,_=>V4
 |0,_,0,_,2,_=>V5
 |0,_,0,_,3,_=>V6
 |0,_,1,_,0,_=>V7
 |0,_,1,_,1,_=>V8
 |0,_,1,_,2,_=>V9
 |0,_,1,_,3,_=>Wh
 |0,_,2,_,0,_=>Wi
 |0,_,2,_,1,_=>Wj
 |0,_,2,_,2,_=>Wn
 |0,_,2,_,3,_=>Wp
 |1,_,0,_,0,_=>Ws
 |1,_,0,_,1,_=>Wu
 |1,_,0,_,2,_=>Wv
 |1,_,0,_,3,_=>Wy
 |1,_,1,_,0,_=>WB
 |1,_,1,_,1,_=>WC
 |1,_,1,_,2,_=>WE
 |1,_,1,_,3,_=>WG
 |1,_,2,_,0,_=>WH
 |1,_,2,_,1,_=>WI
 |1,_,2,_,2,_=>WJ
 |1,_,2,_,3,_=>WM
 |2,_,0,_,0,_=>WO
 |2,_,0,_,1,_=>WQ
 |2,_,0,_,2,_=>WR
 |2,_,0,_,3,_=>WS
 |2,_,1,_,0,_=>WT
 |2,_,1,_,1,_=>WU
 |2,_,1,_,2,_=>WV
 |2,_,1,_,3,_=>WW
 |2,_,2,_,0,_=>WX
 |2,_,2,_,1,_=>WY
 |2,_,2,_,2,_=>WZ
 |2,_,2,_,3,_=>Xa
 |3,_,0,_,0,_=>Xb
 |3,_,0,_,1,_=>Xc
 |3,_,0,_,2,_=>Xd
 |3,_,0,_,3,_=>Xe
 |3,_,1,_,0,_=>Xf
 |3,_,1,_,1,_=>Xg
 |3,_,1,_,2,_=>Xh
 |3,_,1,_,3,_=>Xi
 |3,_,2,_,0,_=>Xj
 |3,_,2,_,1,_=>Xk
 |3,_,2,_,2,_=>Xl
 |3,_,2,_,3,_=>Xm
def J5(I:ByteArray):ByteArray:=⟨#[116,121,112,101,32,97,32,61,32,98,10,116,121,112,101,32,98,32,61,32]⟩++I++⟨([10,116,121,112,101,32,114,49,32,61,32,91,114,50,93,10,116,121,112,101,32,114,50,32,61,32,114,49,10,116,121,112,101,32,120,32,61,32,110,111,110,101,10,116,121,112,101,32,98,32,61,32,105,110,116,10,102,117,110,99,32,102,117,110].append [40,112,58,32,97,41,58,32,98,32,61,32,112,10,102,117,110,99,32,98,97,100,40,112,58,32,114,49,41,58,32,105,110,116,32,61,32,49,10,102,117,110,99,32,103,111,110,101,40,112,58,32,120,41,58,32,105,110,116,32,61,32,49,10]).toArray⟩
def ae8:List og:= [⟨⟨#[114,49]⟩,2⟩,⟨⟨#[114,50]⟩,2⟩,⟨⟨#[120]⟩,5⟩,⟨⟨#[98]⟩,4⟩,⟨⟨#[98,97,100]⟩,2⟩,⟨⟨#[103,111,110,101]⟩,5⟩]
theorem acZ:∀n,n<4→∀k,k<3→(iq (J5 (N7 n k)) []).2.2=0∧listEq rO (iq (J5 (N7 n k)) []).2.1 ae8=true∧
  iO (iq (J5 (N7 n k)) []).1.types ⟨#[97]⟩=(N7 n k,0)∧(iO (iq (J5 (N7 n k)) []).1.types ⟨#[114,49]⟩).2=6∧
  jR (iq (J5 (N7 n k)) []).1.funcs ⟨#[102,117,110]⟩=0∧listEq iT (kW (iq (J5 (N7 n k)) []).1.funcs ⟨#[102,117,110]⟩).params [N7 n k]=true∧(kW (iq (J5 (N7 n k)) []).1.funcs ⟨#[102,117,110]⟩).result=N7 n k:=by decide +kernel
def oP(n:Int)(many:Nat):Nat:=(if n<0 then -(n+1)else n).toNat%many
theorem pO(n:Int){many:Nat}(h:0<many):oP n many<many:=Nat.mod_lt _ h
theorem DV(n:Int)(many:Nat)(hm:0<many)(hn:I64 n)(w:World):Calls prog 20 #[.int .i64 n,.int .i64 many] w fun e w'=>e=.returned (.int .i64 (oP n many))∧w=w':=by
 obtain⟨h1,h2⟩:=hn;have hmz:((many:Int)==0)=false:=by simp;omega
 by_cases h:n<0
 ·have hr:(-(n+1)).tmod (many:Int)=(oP n many:Int):=by
   rw[Int.tmod_eq_emod_of_nonneg (by omega)];unfold oP;rw[if_pos h,Int.natCast_emod,Int.toNat_of_nonneg (by omega)]
  have e1:wrap64 (n+1)=n+1:=IntWalk.wrap64_in _ (by omega);have e2:wrap64 (-(n+1))= -(n+1):=IntWalk.wrap64_in _ (by omega);rw[Int.neg_tmod]at hr;have HR:=ah hr;clear hr;go_enter func20,ntmps20;go_wp2_with fail;go_ret;exact⟨dh HR.out,rfl⟩
 ·have hr:n.tmod (many:Int)=(oP n many:Int):=by
   rw[Int.tmod_eq_emod_of_nonneg (by omega)];unfold oP;rw[if_neg h,Int.natCast_emod,Int.toNat_of_nonneg (by omega)]
  have HR:=ah hr;clear hr;go_enter func20,ntmps20;go_wp2_with fail;go_ret;exact⟨by first|exact dh HR.out|exact dh (by rw[←HR.out,Int.tmod_eq_emod_of_nonneg (by omega)]),rfl⟩
end Go.Proofs.YtjaladhdnbhliaaGreatDoor
