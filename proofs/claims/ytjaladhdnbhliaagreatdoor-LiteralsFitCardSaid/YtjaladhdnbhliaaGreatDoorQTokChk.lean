/- Parts. -/
import Derived.Test.YtjaladhdnbhliaaGreatDoorQLayIn
set_option maxHeartbeats 2000000
set_option maxRecDepth 100000
namespace Go.Proofs.YtjaladhdnbhliaaGreatDoor
open Go.Proofs.Tryz
open Go.RowKit Go.Shelf
theorem VN{t:Token}(h:t.kind<1∨4<t.kind):lV t=3:=by unfold lV;rw[if_pos h]
theorem uj{t:Token}(h1:1≤t.kind)(h2:t.kind≤4)(h:sJ t=true):lV t=0:=by unfold lV;rw[if_neg (by omega),if_pos h]
theorem Qq{t:Token}(h1:1≤t.kind)(h2:t.kind≤4)(h:sJ t=false):lV t=4:=by unfold lV;rw[if_neg (by omega),if_neg (by simp[h])]
theorem Qs{l:List Token}{E:Int}(h:l.length≤200)(he:dL lV l=E):vO l=E:=by unfold vO;rw[if_neg (by omega),he]
theorem abU{l:List Token}(h:200<l.length):vO l=1:=by unfold vO;rw[if_pos h]
theorem NQ(s:ByteArray)(w:World)(hs:s.size≤140737488355328):Calls prog 204 #[.string s] w fun e w'=>e=.returned (.bool (jC s))∧w=w':=by
 obtain⟨E,hE⟩:∃z,jC s=z:=⟨_,rfl⟩;rw[hE];have HE:=ah hE;clear hE;go_enter func204,ntmps204;go_wp2;go_loopg [3] s.size (fun gg s3 wr=>∃kk:Nat,kk≤s.size∧s.size-kk≤gg∧s3=.int .i64 kk∧wr=w∧Aside (∀j,j<kk→∀x,s.data.toList[j]? =some x→fC x=true))
 case atStart=>exact⟨0,Nat.zero_le _,by omega,rfl,rfl,aside (fun j hj=>absurd hj (Nat.not_lt_zero _))⟩
 case round=>
  obtain⟨kk,hkk,hg,rfl,rfl,A1⟩:=hrel
  by_cases hlt:kk<s.size
  ·have hltz:(kk:Int)<(s.size:Int):=by omega
   have hb:(s[kk].toNat:Int)<256:=by have:=s[kk].toNat_lt;omega
   have hx:=gY s kk hlt;obtain⟨z,hz⟩:∃z,fC s[kk]=z:=⟨_,rfl⟩;have hin:inB (s[kk].toNat:Int) 48 57=z:=by rw[←hz];unfold inB fC;rw[Bool.eq_iff_iff];simp;omega
   have hin2:=fun U:World=>iw (s[kk].toNat:Int) 48 57 U
   rw[hin]at hin2;obtain⟨HX,HZ,TJ⟩:=ak hx hz hin2;clear hx hz hin2;clear hin;cases z with
   |false=>
    go_wp2_with(go_at_call 139;refine(TJ.out _).mono ?_;rintro e w' ⟨rfl,rfl⟩);go_ret;refine⟨dw ?_,rfl⟩;rw[←HE.out]
    symm
    rw[Bool.eq_false_iff];intro h;unfold jC at h;rw[Bool.and_eq_true]at h;have h1:=(vH h.2).1;rw[List.all_eq_true]at h1;have h2:=h1 _ (List.mem_of_getElem? HX.out);rw[HZ.out]at h2;cases h2
   |true=>
    go_wp2_with(go_at_call 139;refine(TJ.out _).mono ?_;rintro e w' ⟨rfl,rfl⟩);go_roundg (s.size-(kk+1))
    case measure=>omega
    case rel=>
     refine⟨kk+1,by omega,by omega,by go_num,rfl,aside ?_⟩;intro j hj x hx
     by_cases e:j=kk
     ·subst e;rw[HX.out]at hx;injection hx with hx;rw[←hx];exact HZ.out
     ·exact A1.out j (by omega) x hx
  ·have hltz:¬(kk:Int)<(s.size:Int):=by omega
   obtain rfl:kk=s.size:=by omega
   have hall:s.data.toList.all fC=true:=by
    rw[List.all_eq_true];intro x hx;obtain⟨j,hj,rfl⟩:=List.mem_iff_getElem.1 hx;exact A1.out j hj _ (aK hj)
   by_cases h6:1≤s.size∧s.size≤6
   ·have hin:inB (s.size:Int) 1 6=true:=by unfold inB;simp;omega
    have hin2:=fun U:World=>iw (s.size:Int) 1 6 U
    rw[hin]at hin2;have h0:0<s.size:=by omega
    have hx:=gY s 0 h0;have hb:(s[0].toNat:Int)<256:=by have:=s[0].toNat_lt;omega
    have hnn:jC s=(decide (s.size=1)|| !decide (s[0].toNat=48)):=by
     unfold jC;rw[decide_eq_true h6.2,Bool.true_and];cases hl:s.data.toList with
     |nil=>rw[hl]at hx;cases hx
     |cons c r=>
      rw[hl]at hx hall;injection hx with hx
      rw[Bz,hall,Bool.true_and,←hx];have hlen:s.size=r.length+1:=by rw[mW,hl];rfl
      congr 1
      rw[hlen,Bool.eq_iff_iff,List.isEmpty_iff,decide_eq_true_eq];exact⟨fun h=>by rw[h];rfl,fun h=>List.length_eq_zero_iff.1 (by omega)⟩
    rw[HE.out]at hnn;have h0z:(0:Int)<(s.size:Int):=by omega
    have TJ:=ah hin2;clear hin2;clear hin hx A1 hall
    by_cases h1:s.size=1
    ·have h1z:((s.size:Int)==1)=true:=by simp;omega
     rw[decide_eq_true h1,Bool.true_or]at hnn;subst hnn;have H1:=ah h1;clear h1;go_wp2_with(go_at_call 139;refine(TJ.out _).mono ?_;rintro e w' ⟨rfl,rfl⟩);all_goals (go_ret;exact⟨dw (by simp),rfl⟩)
    ·have h1z:((s.size:Int)==1)=false:=by simp;omega
     rw[decide_eq_false h1,Bool.false_or]at hnn;have HNN:=ah hnn;clear hnn;have H1:=ah h1;clear h1;go_wp2_with(go_at_call 139;refine(TJ.out _).mono ?_;rintro e w' ⟨rfl,rfl⟩);all_goals (go_ret;refine⟨dw ?_,rfl⟩;rw[HNN.out,Bool.eq_iff_iff];simp;try omega)
   ·have hin:inB (s.size:Int) 1 6=false:=by unfold inB;rw[Bool.eq_false_iff];simp;omega
    have hin2:=fun U:World=>iw (s.size:Int) 1 6 U
    rw[hin]at hin2;have hnn:jC s=false:=by
     unfold jC
     by_cases h7:s.size≤6
     ·have h0:s.data.toList= []:=List.length_eq_zero_iff.1 (show s.size=0 by omega);rw[h0,show Oa []=false from rfl,Bool.and_false]
     ·rw[decide_eq_false h7,Bool.false_and]
    rw[HE.out]at hnn;subst hnn;have TJ:=ah hin2;clear hin2;clear hin A1 hall;go_wp2_with(go_at_call 139;refine(TJ.out _).mono ?_;rintro e w' ⟨rfl,rfl⟩);go_ret;exact⟨rfl,rfl⟩
theorem VE(s:ByteArray)(w:World):Calls prog 206 #[.string s] w fun e w'=>e=.returned (.bool (rY s))∧w=w':=by
 obtain⟨E,hE⟩:∃z,rY s=z:=⟨_,rfl⟩;rw[hE];have HE:=ah hE;clear hE;go_enter func206,ntmps206;go_wp2;go_loopg [4] 11 (fun gg s4 wr=>∃kk:Nat,kk≤11∧11-kk≤gg∧s4=.int .i64 kk∧wr=w∧Aside (∀j,j<kk→∀c,yH[j]? =some c→s≠⟨#[c]⟩))
 case atStart=>exact⟨0,Nat.zero_le _,by omega,rfl,rfl,aside (fun j hj=>absurd hj (Nat.not_lt_zero _))⟩
 case round=>
  obtain⟨kk,hkk,hg,rfl,rfl,A1⟩:=hrel
  by_cases hlt:kk<11
  ·have hltz:(kk:Int)<11:=by omega
   have hx:yH[kk]? =some (yH[kk]'hlt):=aK hlt;generalize yH[kk]'hlt=c at hx;have hex:(ByteArray.mk #[61,40,41,91,93,44,43,46,58,60,62]).extract kk (kk+1)=⟨#[c]⟩:=by
    apply zK;rw[CY,show kk+1-kk=1 by omega]
    show(yH.drop kk).take 1= [c]
    rw[List.drop_eq_getElem_cons (by exact hlt)];rw[aK hlt]at hx;injection hx with hx
    rw[hx];rfl
   obtain⟨z,hz⟩:∃z,(s.toList==(ByteArray.mk #[61,40,41,91,93,44,43,46,58,60,62] |>.extract kk (kk+1)).toList)=z:=⟨_,rfl⟩;have hzz:z=decide (s=⟨#[c]⟩):=by rw[←hz,hex,str_eq]
   obtain⟨HX,HZZ⟩:=aj hx hzz;clear hx hzz;clear hex;cases z with
   |true=>
    have hs:s=⟨#[c]⟩:=by have:=HZZ.out;simpa using this.symm
    obtain rfl:E=true:=by
     rw[←HE.out,hs,MJ];exact List.contains_iff_mem.2 (List.mem_of_getElem? HX.out)
    clear hs;go_wp2_with fail;go_ret;exact⟨rfl,rfl⟩
   |false=>
    have hs:s≠⟨#[c]⟩:=by have:=HZZ.out;simpa using this.symm
    have HS:=ah hs;clear hs;go_wp2_with fail;go_roundg (11-(kk+1))
    case measure=>omega
    case rel=>
     refine⟨kk+1,by omega,by omega,by go_num,rfl,aside ?_⟩;intro j hj x hx
     by_cases e:j=kk
     ·subst e;rw[HX.out]at hx;injection hx with hx;rw[←hx];exact HS.out
     ·exact A1.out j (by omega) x hx
  ·have hltz:¬(kk:Int)<11:=by omega
   obtain rfl:kk=11:=by omega
   obtain rfl:E=false:=by
    rw[←HE.out,Bool.eq_false_iff];intro h
    by_cases h1:s.size=1
    ·obtain⟨c,rfl⟩:=one_byte h1;rw[MJ]at h;obtain⟨j,hj,hc⟩:=List.mem_iff_getElem.1 (List.contains_iff_mem.1 h);exact A1.out j hj c (by rw[aK hj,hc]) rfl
    ·rw[VF h1]at h;cases h
   clear A1;go_wp2_with fail;go_ret;exact⟨rfl,rfl⟩
theorem Om(l:List Token)(v:Value)(F:aV)(w:World)(hF:∀k,F k→k<w.heap.size)(hl:SliceOf fG 2 24 w F v l):
  Calls prog 140 #[v] w fun e w'=>e=.returned (.int .i64 (vO l))∧Below w.heap.size w w':=by
 obtain⟨A,cap,rfl,hlc,hcm,hl2,hl3⟩:=hl.form;unfold maxLen at hcm;obtain⟨E,hE⟩:∃z,vO l=z:=⟨_,rfl⟩;rw[hE];obtain⟨HE,HL⟩:=aj hE hl;clear hE hl;go_enter func140,ntmps140
 by_cases h2:200<l.length
 ·have h2z:(200:Int)<(l.length:Int):=by omega
  obtain rfl:E=1:=by rw[←HE.out,abU h2]
  go_wp2_with fail;go_ret;exact⟨rfl,Below.refl _ _⟩
 ·have h2z:¬(200:Int)<(l.length:Int):=by omega
  go_wp2_with fail;go_loopg [3,4] l.length (fun gg s3 _ wr=>∃kk:Nat,kk≤l.length∧l.length-kk≤gg∧s3=.int .i64 kk∧Aside (Below w.heap.size w wr)∧Aside (∀j,j<kk→∀y,l[j]? =some y→lV y=0))
  case atStart=>exact⟨0,Nat.zero_le _,by omega,rfl,aside (Below.refl _ _),aside (fun j hj=>absurd hj (Nat.not_lt_zero _))⟩
  case round=>
   obtain⟨kk,hkk,hg,rfl,BW,Al⟩:=hrel
   by_cases hlt:kk<l.length
   ·have hltz:(kk:Int)<(l.length:Int):=by omega
    obtain⟨b1,off,cs,rfl,jc,hcs,⟨rfl,hki,htx⟩,hcell⟩:=(HL.out.up fG.stays hF BW.out).at_ hlt;have hc0:=hcell 0 _ rfl;have hc1:=hcell 1 _ rfl;simp only[Nat.add_zero]at hc0;have hy:=aK hlt;generalize l[kk]=t at*;obtain⟨k,s⟩:=t;dsimp only at hki htx hc0 hc1;have hs:s.size≤140737488355328:=htx;have hbl:=bg hF BW.out _ jc;have hi1:=hki.1;have hi2:=hki.2;have hin:=fun U:World=>iw k 1 4 U
    have hw:=fun U:World=>I9 s U hs
    have hn:=fun U:World=>NQ s U hs
    have hq:=fun U:World=>FN s U hs
    have hg:=fun U:World=>VE s U
    obtain⟨zi,hzi⟩:∃z,inB k 1 4=z:=⟨_,rfl⟩;have hie:zi=(decide (1≤k)&&decide (k≤4)):=hzi.symm;rw[hzi]at hin;obtain⟨HY,TJ,HW,HN,HQ,HG⟩:=aA hy hin hw hn hq hg;clear hy hin hw hn hq hg;clear hcell hcs hzi;go_upto_region 7 with fail
    have hBb:=Box.made wr 182 #[.int .i64 k,.string s];have hbb:Below wr.heap.size wr (wr.alloc (.cells #[.int .i64 k,.string s] 182)):=by go_grown
    have hzb:(wr.alloc (.cells #[.int .i64 k,.string s] 182)).heap.size=wr.heap.size+1:=by simp
    generalize wr.alloc (.cells #[.int .i64 k,.string s] 182)=W1 at hBb hbb hzb⊢;have x0:=hBb.at_ 0 _ rfl;have x1:=hBb.at_ 1 _ rfl;have hb1:=aS BW.out hbb;have HB1:=ah hb1;clear hb1;clear hbb hBb hzb hc0 hc1;have hgood:lV ⟨k,s⟩=0→∀j,j<kk+1→∀y,l[j]? =some y→lV y=0:=fun h=>fO HY.out h Al.out
    have hbad:∀z,z≠0→lV ⟨k,s⟩=z→E=z:=fun z h0 h=>by rw[←HE.out];exact Qs (by omega) (eP HY.out h h0 Al.out)
    by_cases hk:1≤k∧k≤4
    case neg=>
     have oN:=hbad 3 (by decide) (VN (t:=⟨k,s⟩) (by dsimp only;omega));subst oN;obtain rfl:zi=false:=by rw[hie];simp;omega
     clear hgood hie;go_wp2_with(go_at_call 139;refine(TJ.out _).mono ?_;rintro e w' ⟨rfl,rfl⟩);go_ret;exact⟨rfl,HB1.out⟩
    case pos=>
    obtain rfl:zi=true:=by rw[hie];simp;omega
    have hok:=uj (t:=⟨k,s⟩) hk.1 hk.2;have hno:=Qq (t:=⟨k,s⟩) hk.1 hk.2;have hcase:k=1∨k=2∨k=3∨k=4:=by omega
    clear hie hk;rcases hcase with rfl|rfl|rfl|rfl
    ·obtain⟨z,hz⟩:∃z,oH s=z:=⟨_,rfl⟩;have hcl:=HW.out;rw[show sJ ⟨1,s⟩=oH s from rfl,hz]at hok hno;rw[hz]at hcl;have Gh:=ah hcl;clear hcl;clear hz HW HN HQ HG;cases z with
     |false=>
      have oN:=hbad 4 (by decide) (hno rfl);subst oN;clear hgood hok hno;go_wp2_with(first
       |(go_at_call 139;(with_reducible refine(TJ.out _).mono ?_);rintro e w' ⟨rfl,rfl⟩)
       |(go_at_call 164;(with_reducible refine(Gh.out _).mono ?_);rintro e w' ⟨rfl,rfl⟩))
      go_ret;exact⟨rfl,HB1.out⟩
     |true=>
      have hgd:=hgood (hok rfl);have HGD:=ah hgd;clear hgd;clear hgood hok hno hbad;go_wp2_with(first
       |(go_at_call 139;(with_reducible refine(TJ.out _).mono ?_);rintro e w' ⟨rfl,rfl⟩)
       |(go_at_call 164;(with_reducible refine(Gh.out _).mono ?_);rintro e w' ⟨rfl,rfl⟩))
      go_roundg (l.length-(kk+1))
      case measure=>omega
      case rel=>exact⟨kk+1,by omega,by omega,by go_num,aside HB1.out,aside HGD.out⟩
    ·obtain⟨z,hz⟩:∃z,jC s=z:=⟨_,rfl⟩;have hcl:=HN.out;rw[show sJ ⟨2,s⟩=jC s from rfl,hz]at hok hno;rw[hz]at hcl;have Gh:=ah hcl;clear hcl;clear hz HW HN HQ HG;cases z with
     |false=>
      have oN:=hbad 4 (by decide) (hno rfl);subst oN;clear hgood hok hno;go_wp2_with(first
       |(go_at_call 139;(with_reducible refine(TJ.out _).mono ?_);rintro e w' ⟨rfl,rfl⟩)
       |(go_at_call 204;(with_reducible refine(Gh.out _).mono ?_);rintro e w' ⟨rfl,rfl⟩))
      go_ret;exact⟨rfl,HB1.out⟩
     |true=>
      have hgd:=hgood (hok rfl);have HGD:=ah hgd;clear hgd;clear hgood hok hno hbad;go_wp2_with(first
       |(go_at_call 139;(with_reducible refine(TJ.out _).mono ?_);rintro e w' ⟨rfl,rfl⟩)
       |(go_at_call 204;(with_reducible refine(Gh.out _).mono ?_);rintro e w' ⟨rfl,rfl⟩))
      go_roundg (l.length-(kk+1))
      case measure=>omega
      case rel=>exact⟨kk+1,by omega,by omega,by go_num,aside HB1.out,aside HGD.out⟩
    ·obtain⟨z,hz⟩:∃z,jq s=z:=⟨_,rfl⟩;have hcl:=HQ.out;rw[show sJ ⟨3,s⟩=jq s from rfl,hz]at hok hno;rw[hz]at hcl;have Gh:=ah hcl;clear hcl;clear hz HW HN HQ HG;cases z with
     |false=>
      have oN:=hbad 4 (by decide) (hno rfl);subst oN;clear hgood hok hno;go_wp2_with(first
       |(go_at_call 139;(with_reducible refine(TJ.out _).mono ?_);rintro e w' ⟨rfl,rfl⟩)
       |(go_at_call 205;(with_reducible refine(Gh.out _).mono ?_);rintro e w' ⟨rfl,rfl⟩))
      go_ret;exact⟨rfl,HB1.out⟩
     |true=>
      have hgd:=hgood (hok rfl);have HGD:=ah hgd;clear hgd;clear hgood hok hno hbad;go_wp2_with(first
       |(go_at_call 139;(with_reducible refine(TJ.out _).mono ?_);rintro e w' ⟨rfl,rfl⟩)
       |(go_at_call 205;(with_reducible refine(Gh.out _).mono ?_);rintro e w' ⟨rfl,rfl⟩))
      go_roundg (l.length-(kk+1))
      case measure=>omega
      case rel=>exact⟨kk+1,by omega,by omega,by go_num,aside HB1.out,aside HGD.out⟩
    ·obtain⟨z,hz⟩:∃z,rY s=z:=⟨_,rfl⟩;have hcl:=HG.out;rw[show sJ ⟨4,s⟩=rY s from rfl,hz]at hok hno;rw[hz]at hcl;have Gh:=ah hcl;clear hcl;clear hz HW HN HQ HG;cases z with
     |false=>
      have oN:=hbad 4 (by decide) (hno rfl);subst oN;clear hgood hok hno;go_wp2_with(first
       |(go_at_call 139;(with_reducible refine(TJ.out _).mono ?_);rintro e w' ⟨rfl,rfl⟩)
       |(go_at_call 206;(with_reducible refine(Gh.out _).mono ?_);rintro e w' ⟨rfl,rfl⟩))
      go_ret;exact⟨rfl,HB1.out⟩
     |true=>
      have hgd:=hgood (hok rfl);have HGD:=ah hgd;clear hgd;clear hgood hok hno hbad;go_wp2_with(first
       |(go_at_call 139;(with_reducible refine(TJ.out _).mono ?_);rintro e w' ⟨rfl,rfl⟩)
       |(go_at_call 206;(with_reducible refine(Gh.out _).mono ?_);rintro e w' ⟨rfl,rfl⟩))
      go_roundg (l.length-(kk+1))
      case measure=>omega
      case rel=>exact⟨kk+1,by omega,by omega,by go_num,aside HB1.out,aside HGD.out⟩
   ·have hltz:¬(kk:Int)<(l.length:Int):=by omega
    obtain rfl:kk=l.length:=by omega
    obtain rfl:E=0:=by rw[←HE.out];exact Qs (by omega) (fM Al.out)
    go_wp2_with fail;go_ret;exact⟨rfl,BW.out⟩
end Go.Proofs.YtjaladhdnbhliaaGreatDoor
