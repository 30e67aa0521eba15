/- Parts. -/
import Derived.Test.YtjaladhdnbhliaaGreatDoorQLawChk
set_option maxHeartbeats 64000000
namespace Go.Proofs.YtjaladhdnbhliaaGreatDoor
open Go.Proofs.Tryz
open Go.RowKit Go.Shelf
theorem VP{a b:ByteArray}{p:Nat}(h:p<2):(#[Value.string a,.string b])[p]? =some (.string (if p=0 then a else b)):=by
 match p,h with
 |0,_=>rfl
 |1,_=>rfl
set_option maxRecDepth 100000 in
theorem Fa(n:Int)(x:Bool)(mx:Int)(W:World)(hn:I64 n)(hT:Tabs W mx):
  Calls prog 6 #[.int .i64 n,.bool x] W fun e w'=>e=.returned (.bool true)∧Below W.heap.size W w':=by
 have hp:∀U,Calls prog 20 #[.int .i64 n,.int .i64 2] U fun e w'=>e=.returned (.int .i64 (oP n 2))∧U=w':=fun U=>DV n 2 (by decide) hn U
 have hp2:=pO n (many:=2) (by decide);generalize oP n 2=i at hp hp2;obtain⟨g,hg⟩:∃g,(if x=true then 1 else 0)=g:=⟨_,rfl⟩;have hg2:g<2:=by rw[←hg];split<;>decide
 have hch:=fun U (hU:Below W.heap.size W U)=>zN (abr (RD i) (RF g)) mx U (hT.later hU)
 obtain⟨_,h2,h3⟩:=ad8 i hp2 g hg2;obtain⟨⟨E,D,k⟩,hE⟩:∃z,iq (abr (RD i) (RF g)) []=z:=⟨_,rfl⟩;simp only[hE]at hch;rw[hE]at h2 h3;dsimp only at h2 h3;have h4:∀y∈D,y.code=8:=fun y hy=>by
  have:=List.all_eq_true.1 h3 y hy;simpa using this
 have hck:=VP (a:=pI) (b:=nP) hp2;have hcl:=VP (a:=⟨#[55]⟩) (b:=⟨#[34,120,34]⟩) hg2;have hkd:(if i=0 then pI else nP)=RD i:=rfl;have hld:(if g=0 then(⟨#[55]⟩:ByteArray)else⟨#[34,120,34]⟩)=RF g:=rfl;rw[hkd]at hck;rw[hld]at hcl;have hks:(RD i).size≤4:=by unfold RD;split<;>decide
 have hls:(RF g).size≤3:=by unfold RF;split<;>decide
 obtain⟨K,hK⟩:∃z,RD i=z:=⟨_,rfl⟩;obtain⟨L,hL⟩:∃z,RF g=z:=⟨_,rfl⟩;rw[hK]at hch hck hks;rw[hL]at hch hcl hls;unfold abr at hch;unfold pI nP at hck;have hsm:∀n m:Nat,n≤m→m≤1000→¬9223372036854775807<n:=fun n m h1 h2 h3=>by omega
 have b0:10+K.size≤14:=Nat.add_le_add (aJ 10) hks;have a0:=hsm _ _ b0 (by decide);have b1:10+K.size+3≤17:=Nat.add_le_add_right b0 3;have a1:=hsm _ _ b1 (by decide);have b2:10+K.size+3+L.size≤20:=Nat.add_le_add b1 hls;have a2:=hsm _ _ b2 (by decide);have b3:10+K.size+3+L.size+12≤32:=Nat.add_le_add_right b2 12;have a3:=hsm _ _ b3 (by decide);have b4:10+K.size+3+L.size+12+K.size≤36:=Nat.add_le_add b3 hks;have a4:=hsm _ _ b4 (by decide);have b5:10+K.size+3+L.size+12+K.size+5≤41:=Nat.add_le_add_right b4 5;have a5:=hsm _ _ b5 (by decide);have b6:10+K.size+3+L.size+12+K.size+5+L.size≤44:=Nat.add_le_add b5 hls;have a6:=hsm _ _ b6 (by decide);have b7:10+K.size+3+L.size+12+K.size+5+L.size+2≤46:=Nat.add_le_add_right b6 2;have a7:=hsm _ _ b7 (by decide);have b8:10+K.size+3+L.size+12+K.size+5+L.size+2+L.size≤49:=Nat.add_le_add b7 hls;have a8:=hsm _ _ b8 (by decide);have b9:10+K.size+3+L.size+12+K.size+5+L.size+2+L.size+12≤61:=Nat.add_le_add_right b8 12;have a9:=hsm _ _ b9 (by decide);have b10:10+K.size+3+L.size+12+K.size+5+L.size+2+L.size+12+K.size≤65:=Nat.add_le_add b9 hks;have a10:=hsm _ _ b10 (by decide);have b11:10+K.size+3+L.size+12+K.size+5+L.size+2+L.size+12+K.size+5≤70:=Nat.add_le_add_right b10 5;have a11:=hsm _ _ b11 (by decide);have b12:10+K.size+3+L.size+12+K.size+5+L.size+2+L.size+12+K.size+5+L.size≤73:=Nat.add_le_add b11 hls;have a12:=hsm _ _ b12 (by decide);have b13:10+K.size+3+L.size+12+K.size+5+L.size+2+L.size+12+K.size+5+L.size+16≤89:=Nat.add_le_add_right b12 16;have a13:=hsm _ _ b13 (by decide)
 have b14:10+K.size+3+L.size+12+K.size+5+L.size+2+L.size+12+K.size+5+L.size+16+K.size≤93:=Nat.add_le_add b13 hks;have a14:=hsm _ _ b14 (by decide);have b15:10+K.size+3+L.size+12+K.size+5+L.size+2+L.size+12+K.size+5+L.size+16+K.size+3≤96:=Nat.add_le_add_right b14 3;have a15:=hsm _ _ b15 (by decide);have b16:10+K.size+3+L.size+12+K.size+5+L.size+2+L.size+12+K.size+5+L.size+16+K.size+3+K.size≤100:=Nat.add_le_add b15 hks;have a16:=hsm _ _ b16 (by decide);have b17:10+K.size+3+L.size+12+K.size+5+L.size+2+L.size+12+K.size+5+L.size+16+K.size+3+K.size+7≤107:=Nat.add_le_add_right b16 7;have a17:=hsm _ _ b17 (by decide);have b18:10+K.size+3+L.size+12+K.size+5+L.size+2+L.size+12+K.size+5+L.size+16+K.size+3+K.size+7+L.size≤110:=Nat.add_le_add b17 hls;have a18:=hsm _ _ b18 (by decide);have b19:10+K.size+3+L.size+12+K.size+5+L.size+2+L.size+12+K.size+5+L.size+16+K.size+3+K.size+7+L.size+1≤111:=Nat.add_le_add_right b18 1;have a19:=hsm _ _ b19 (by decide);clear hsm b0 b1 b2 b3 b4 b5 b6 b7 b8 b9 b10 b11 b12 b13 b14 b15 b16 b17 b18 b19;obtain⟨HP,HCH,HD4,HCK,Gh⟩:=ay hp hch h4 hck hcl;clear hp hch h4 hck hcl;clear hT hE h3 hK hL hkd hld hks hls;have hiz:(i:Int)<2:=by omega
 have hgz:(g:Int)<2:=by omega
 obtain⟨d,hd,hd2,hDd⟩:∃d:Nat,(if i=g then 0 else 1)=d∧d≤1∧D.length=4*d:=by
  refine⟨_,rfl,by split<;>decide,?_⟩;rw[h2];split<;>rfl
 have hlz:((D.length:Int)!=4*(d:Int))=false:=by
  rw[hDd];rcases(show d=0∨d=1 by omega)with rfl|rfl<;>decide
 obtain⟨HDD,HG,HD⟩:=ak hDd hg hd;clear hDd hg hd;clear h2;go_enter func6,ntmps6;go_upto_region 2 with fail
 have Px:=Box.made W 9 #[.string ⟨#[105,110,116]⟩,.string ⟨#[116,101,120,116]⟩];have hbk:Below W.heap.size W (W.alloc (.cells #[.string ⟨#[105,110,116]⟩,.string ⟨#[116,101,120,116]⟩] 9)):=by go_grown
 have hzk:(W.alloc (.cells #[.string ⟨#[105,110,116]⟩,.string ⟨#[116,101,120,116]⟩] 9)).heap.size=W.heap.size+1:=by simp
 generalize W.alloc (.cells #[.string ⟨#[105,110,116]⟩,.string ⟨#[116,101,120,116]⟩] 9)=W1 at Px hbk hzk⊢;obtain⟨HBK,HB1⟩:=aj Px hbk;clear Px hbk;clear hzk;go_upto_region 4 with (go_at_call 20;(with_reducible refine(HP.out _).mono ?_);rintro e w' ⟨rfl,rfl⟩)
 have hBl:=Box.made W1 9 #[.string ⟨#[55]⟩,.string ⟨#[34,120,34]⟩];have hbl:Below W1.heap.size W1 (W1.alloc (.cells #[.string ⟨#[55]⟩,.string ⟨#[34,120,34]⟩] 9)):=by go_grown
 have hzl:(W1.alloc (.cells #[.string ⟨#[55]⟩,.string ⟨#[34,120,34]⟩] 9)).heap.size=W1.heap.size+1:=by simp
 generalize W1.alloc (.cells #[.string ⟨#[55]⟩,.string ⟨#[34,120,34]⟩] 9)=W2 at hBl hbl hzl⊢;have hk2:=HBK.out.later hbl HBK.out.lt;have hbw:=HB1.out.trans (hbl.mono HB1.out.size);have hs1:=HB1.out.size;have hs2:=hbl.size;have hlt1:W.heap.size<W1.heap.size:=HBK.out.lt;have hlt2:W1.heap.size<W2.heap.size:=hBl.lt;have HZ1:=Lib.hid (show W.heap.size<W2.heap.size by omega);have HZ2:=ah hlt2;clear hlt1 hlt2;have hk:=hk2.at_ i _ HCK.out;have hl:=hBl.at_ g _ Gh.out;have cO:=ah hbw;clear hbw;clear hzl hbl HBK HB1 hk2 hBl HCK Gh;go_upto_if 19 with (fail)
 go_cut [9] (fun s wc=>s=.int .i64 g∧Aside (W2=wc))
 case first=>
  cases x<;>(go_wp2_with fail;go_meet;exact⟨by rw[←HG.out];rfl,aside rfl⟩)
 case rest=>
 obtain⟨rfl,e2⟩:=hcut;obtain rfl:=e2.out;go_upto_if 22 with (fail)
 go_cut [8] (fun s wc=>s=.int .i64 d∧Aside (W2=wc))
 case first=>
  have hd:=HD.out;generalize hq:((i:Int)!=(g:Int))=zb;cases zb with
  |false=>
   have hig:i=g:=by simp at hq;omega
   rw[if_pos hig]at hd;subst hd;clear hq hig;go_wp2_with fail;go_meet;exact⟨rfl,aside rfl⟩
  |true=>
   have hig:i≠g:=by simp at hq;omega
   rw[if_neg hig]at hd;subst hd;clear hq hig;go_wp2_with fail;go_meet;exact⟨rfl,aside rfl⟩
 case rest=>
 obtain⟨rfl,e2⟩:=hcut;obtain rfl:=e2.out;go_upto_region 10 with fail
 have hq1:W.heap.size<W2.heap.size:=HZ1.out;have hq2:W1.heap.size<W2.heap.size:=HZ2.out;have HS:=Lib.hid (show ∀w',Below W2.heap.size W2 w'→(w'.cell? ⟨W.heap.size,i,none⟩=some (.string K)∧w'.cell? ⟨W1.heap.size,g,none⟩=some (.string L))from fun w' h=>⟨(h.cell (p:=⟨W.heap.size,i,none⟩) hq1).trans hk,(h.cell (p:=⟨W1.heap.size,g,none⟩) hq2).trans hl⟩);have hrw:Below W2.heap.size W2 W2.drew:=by go_grown
 have bP:=ah hrw;clear hrw;clear hk hl hq1 hq2;go_cut [11,12] (fun s11 s12 wc=>∃(D1:Option Addr) (d1:Nat),s11=.slice D1 D.length d1∧s12=.bool true∧Aside (Below W2.heap.size W2 wc)∧Aside (SliceOf bn 2 24 wc (old wc.heap.size) (.slice D1 D.length d1) D))
 case first=>
  simp only[List.append_eq,List.cons_append,List.nil_append]
  go_region_held3(fun w'=>w'.cell? ⟨W.heap.size,i,none⟩=some (.string K)∧w'.cell? ⟨W1.heap.size,g,none⟩=some (.string L))
   (exact HS.out _ (by first|exact bP.out|exact bP.out.alloc bP.out.size _|(go_grown;done)|exact(bP.out.alloc bP.out.size _).alloc (bP.out.alloc bP.out.size _).size _|exact bP.out.setCell (aJ _) _|exact(bP.out.setCell (aJ _) _).setCell (aJ _) _))
   ((go_at_call 21;(first|(with_reducible refine(HCH.out _ (cO.out.trans (bP.out.mono cO.out.size))).mono ?_)|(with_reducible refine(HCH.out _ (cO.out.trans ((bP.out.alloc bP.out.size _).mono cO.out.size))).mono ?_)|(with_reducible refine(HCH.out _ (cO.out.trans ((show Below W2.heap.size W2 _ from by go_grown).mono cO.out.size))).mono ?_));rintro e w7 ⟨T1,t1,T2,t2,D1,d1,rfl,hb7,_,hs7⟩;(first|(have hbx:Box w7 W2.heap.size 42 #[.slice none 0 0,.slice none 0 0]:=(by first|exact iI hb7|exact gI hb7);have y0:=hbx.at_ 0 _ rfl;have y1:=hbx.at_ 1 _ rfl;have y2:=hbx.free 0;have y3:=hbx.free 1;clear hbx)|skip);have hb8:=(by first|exact aS bP.out hb7|exact iJ hb7|exact lW bP.out hb7|exact(show Below W2.heap.size W2 _ from by go_grown).trans (hb7.mono (by first|exact aJ _|simp)):Below W2.heap.size W2 w7);have bP:=Lib.hid hb8;have Ti:=Lib.hid hs7;clear hb7 hb8 hs7))
  all_goals
   go_wp2_with fail;go_meet;first
    |exact⟨D1,d1,rfl,rfl,aside (bP.out.alloc bP.out.size _),aside (bK bn.stays (FD bn.stays Ti.out cZ) ((Below.refl _ _).alloc (aJ _) _))⟩
    |exact⟨D1,d1,rfl,rfl,aside ((bP.out.setCell (p:=⟨W2.heap.size,0,none⟩) (aJ _) _).setCell (p:=⟨W2.heap.size,1,none⟩) (aJ _) _),aside (SliceOf.stays bn.stays Ti.out (fun k hk=>by rw[size_set,size_set];exact hk.2) (((Keeps.refl _ _).setCell (q:=⟨W2.heap.size,0,none⟩) (fH (by simp)) _).setCell (q:=⟨W2.heap.size,1,none⟩) (fH (by simp)) _))⟩
 case rest=>
 obtain⟨D1,d1,rfl,rfl,hb3,hs3⟩:=hcut;obtain⟨W3,rfl⟩:∃W,W=wc:=⟨_,rfl⟩;have hsl:=hs3.out;have hbw3:=cO.out.trans (hb3.out.mono cO.out.size);obtain⟨NI,HB3⟩:=aj hsl hbw3;clear hsl hbw3;clear hb3 hs3 HS bP cO HCH HP HZ1 HZ2;clear a0 a1 a2 a3 a4 a5 a6 a7 a8 a9 a10 a11 a12 a13 a14 a15 a16 a17 a18 a19;go_upto_if 96 with (fail)
 go_wp2_with fail;have hD4:D.length≤4:=by have:=HDD.out;omega
 go_loopg [14,99] D.length (fun gg _ s99 wr=>∃kk:Nat,kk≤D.length∧D.length-kk≤gg∧s99=.int .i64 kk∧Aside (Below W3.heap.size W3 wr))
 case atStart=>exact⟨0,Nat.zero_le _,by omega,rfl,aside (Below.refl _ _)⟩
 case round=>
  obtain⟨kk,hkk,hg,rfl,BW⟩:=hrel
  by_cases hlt:kk<D.length
  ·have hltz:(kk:Int)<(D.length:Int):=by omega
   obtain⟨b,off,cs,rfl,hb,hcs,⟨rfl,_,_⟩,hcell⟩:=(NI.out.up bn.stays eF BW.out).at_ hlt;have hc0:=hcell 0 _ rfl;have hc1:=hcell 1 _ rfl;simp only[Nat.add_zero]at hc0;have h8:=HD4.out D[kk] (List.getElem_mem hlt);rw[h8]at hc1;generalize D[kk].qK=s at hc0;clear hcell h8;go_upto_region 16 with fail
   have hBx:=Box.made wr 53 #[.string s,.int .i64 8];have hbx:Below wr.heap.size wr (wr.alloc (.cells #[.string s,.int .i64 8] 53)):=by go_grown
   have hzx:(wr.alloc (.cells #[.string s,.int .i64 8] 53)).heap.size=wr.heap.size+1:=by simp
   generalize wr.alloc (.cells #[.string s,.int .i64 8] 53)=W5 at hBx hbx hzx⊢;have x1:=hBx.at_ 1 _ rfl;have hbw:=BW.out.trans (hbx.mono BW.out.size);have cO:=ah hbw;clear hbw;clear hBx hbx hzx hc0 hc1;go_wp2_with fail;go_roundg (D.length-(kk+1))
   case measure=>omega
   case rel=>exact⟨kk+1,by omega,by omega,by go_num,aside cO.out⟩
  ·have hltz:¬(kk:Int)<(D.length:Int):=by omega
   go_wp2_with fail;go_ret;exact⟨rfl,HB3.out.trans (BW.out.mono HB3.out.size)⟩
end Go.Proofs.YtjaladhdnbhliaaGreatDoor
