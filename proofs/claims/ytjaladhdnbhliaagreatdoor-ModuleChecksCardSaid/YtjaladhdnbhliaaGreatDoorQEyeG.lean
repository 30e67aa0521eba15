/- Parts. -/
import Derived.Test.YtjaladhdnbhliaaGreatDoorQReadG
set_option maxHeartbeats 8000000
set_option maxRecDepth 100000
namespace Go.Proofs.YtjaladhdnbhliaaGreatDoor
open Go.Proofs.Tryz
open Go.RowKit Go.Shelf
structure dB(b:Nat)(F:aV)(A:Option Addr)(c:Nat)(T:List Token)(w W:World)(i:Nat)(e d:Int):Prop where
 box:Box W b 204 #[.slice A T.length c,.int .i64 i,.int .i64 e,.int .i64 d]
 toks:SliceOf fG 2 24 W F (.slice A T.length c) T
 grew:Grew b w W (some b)
 foot:∀k,F k→k<b
 le:i≤T.length
 fine:∀t∈T,t.kind=2→jC t.text=true
 len:T.length≤200
section
variable {b:Nat} {F:aV} {A:Option Addr} {c:Nat} {T:List Token} {w W W':World} {i i':Nat} {e e' d d':Int}
theorem dB.lt(h:dB b F A c T w W i e d):b<W.heap.size:=h.box.lt
theorem dB.size(h:dB b F A c T w W i e d):w.heap.size≤W.heap.size:=h.grew.size
theorem dB.start(h:dB b F A c T w W i e d):dB b F A c T W W i e d:=⟨h.box,h.toks,Grew.Vr _ _ _ tC,h.foot,h.le,h.fine,h.len⟩
theorem dB.trans(h:dB b F A c T w W i e d)(k:dB b F A c T W W' i' e' d'):dB b F A c T w W' i' e' d':=⟨k.box,k.toks,h.grew.wE k.grew,k.foot,k.le,k.fine,k.len⟩
theorem dB.keep(h:dB b F A c T w W i e d)(hk:∀k,k<W.heap.size→(F k∨k=b)→W'.heap[k]? =W.heap[k]?)(hg:Grew b w W' (some b)):dB b F A c T w W' i e d:=
 ⟨h.box.of_heap (hk b h.lt (.inr rfl)),h.toks.stays fG.stays (fun _ h=>h) (dY fun k hF=>hk k (Nat.lt_trans (h.foot k hF) h.lt) (.inl hF)),hg,h.foot,h.le,h.fine,h.len⟩
theorem dB.below(h:dB b F A c T w W i e d)(hb:Below W.heap.size W W'):dB b F A c T w W' i e d:=h.keep (fun k hk _=>hb.block k hk) (h.grew.wE (Grew.of_below hb tC))
theorem dB.drew(h:dB b F A c T w W i e d):dB b F A c T w W.drew i e d:=h.below (by go_grown)
theorem dB.drewN(h:dB b F A c T w W i e d)(n:Nat):dB b F A c T w (W.drewN n) i e d:=h.below (below_drewN (Below.refl _ _) n)
theorem dB.alloc(h:dB b F A c T w W i e d)(o:Obj):dB b F A c T w (W.alloc o) i e d:=h.below ((Below.refl _ _).alloc (aJ _) o)
theorem dB.then_(h:dB b F A c T w W i e d){row:Option Nat}(hg:Grew w.heap.size W W' row)(hb:b<w.heap.size):dB b F A c T w W' i e d:=
 h.keep (fun k hk hk2=>hg.block k hk (fun e=>by
   have:=hg.low k e.symm;rcases hk2 with h2|h2
   ·have:=h.foot k h2;omega
   ·omega)) (h.grew.then_ hg)
theorem dB.set(h:dB b F A c T w W i e d){p:Addr}(hp:w.heap.size≤p.block)(hb:b<w.heap.size)(u:Value):dB b F A c T w (W.setCell p u) i e d:=
 h.keep (fun k _ hk=>Below.heap_setCell _ _ _ _ (fun e=>by
   rcases hk with hk|hk
   ·have:=h.foot k hk;omega
   ·omega)) (h.grew.aak hp u)
theorem dB.put(h:dB b F A c T w W i e d)(j:Nat)(u:Value)(hi:i'≤T.length)(hb:(#[.slice A T.length c,.int .i64 i,.int .i64 e,.int .i64 d]:Array Value).setIfInBounds j u= #[.slice A T.length c,.int .i64 i',.int .i64 e',.int .i64 d']):
  dB b F A c T w (W.setCell ⟨b,j,none⟩ u) i' e' d':=
 ⟨by have:=h.box.put j u;rw[hb]at this;exact this,h.toks.stays fG.stays (fun _ h=>h) ((Keeps.refl _ _).setCell (fun hF=>Nat.lt_irrefl _ (h.foot _ hF)) _),h.grew.wE (Grew.cell_ _ _ _),h.foot,hi,h.fine,h.len⟩
end
def St{α:Type}(R:Except Int (α×List Token))(q:Pr α)(T:List Token)(i:Nat)(e:Int):Prop:=(e=0∧R=q (T.drop i))∨(e≠0∧R=.error e)
def Rs{α:Type}(p:Pr α)(T:List Token)(i:Nat)(e:Int):Except Int (α×List Token):=if e=0 then p (T.drop i)else .error e
def uw(e k:Int):Int:=if e=0 then k else e
section
variable {α β:Type} {R:Except Int (β×List Token)} {p q r:Pr α} {T:List Token} {i i':Nat} {e e' k:Int} {x:α} {s:ByteArray}
theorem St.start(p:Pr β):St (Rs p T i e) p T i e:=by
 unfold Rs
 by_cases h:e=0
 ·rw[if_pos h];exact .inl ⟨h,rfl⟩
 ·rw[if_neg h];exact .inr ⟨h,rfl⟩
theorem St.then_{f:α→Pr β}(h:St R (aO p f) T i e)(hp:St (Rs p T i e) (bJ x) T i' e'):St R (f x) T i' e':=by
 rcases h with ⟨rfl,h⟩|⟨h0,h⟩
 ·unfold Rs at hp;rw[if_pos rfl]at hp;rcases hp with ⟨h1,h2⟩|⟨h1,h2⟩
  ·exact .inl ⟨h1,h.trans (bI h2)⟩
  ·exact .inr ⟨h1,h.trans (bM h2)⟩
 ·unfold Rs at hp;rw[if_neg h0]at hp;rcases hp with ⟨h1,h2⟩|⟨h1,h2⟩
  ·cases h2
  ·injection h2 with h2
   exact .inr ⟨h1,by rw[h,h2]⟩
theorem St.bad{q q':Pr β}(h:St R q T i e)(hq:e=0→q (T.drop i)=.error k)(hk:k≠0):St R q' T i' (uw e k):=by
 unfold uw;rcases h with ⟨rfl,h⟩|⟨h0,h⟩
 ·rw[if_pos rfl];exact .inr ⟨hk,h.trans (hq rfl)⟩
 ·rw[if_neg h0];exact .inr ⟨h0,h⟩
theorem St.eq{q q':Pr β}(h:St R q T i e)(hq:e=0→q (T.drop i)=q' (T.drop i')):St R q' T i' e:=by
 rcases h with ⟨rfl,h⟩|⟨h0,h⟩
 ·exact .inl ⟨rfl,h.trans (hq rfl)⟩
 ·exact .inr ⟨h0,h⟩
theorem St.stuck{q q':Pr β}(h:St R q T i e)(h0:e≠0):St R q' T i' e:=h.elim (fun h=>absurd h.1 h0) (fun h=>.inr h)
end
def Seen(s:ByteArray)(T:List Token)(i:Nat)(e:Int)(z:Bool)(i':Nat):Prop:=(z=false∧i'=i∧(e=0→eX s (T.drop i)=none))∨(z=true∧e=0∧eX s (T.drop i)=some (T.drop i'))
section
variable {β:Type} {R:Except Int (β×List Token)} {p q:Pr β} {T:List Token} {i i':Nat} {e:Int} {s:ByteArray}
theorem St.yes(h:St R (iL s p q) T i e)(hs:Seen s T i e true i'):St R p T i' e:=by
 rcases hs with ⟨h1,_⟩|⟨_,rfl,h2⟩
 ·cases h1
 ·exact h.eq (fun _=>dW h2)
theorem St.no(h:St R (iL s p q) T i e)(hs:Seen s T i e false i'):i'=i∧St R q T i e:=by
 rcases hs with ⟨_,rfl,h2⟩|⟨h1,_⟩
 ·exact⟨rfl,h.eq (fun h0=>lg (h2 h0))⟩
 ·cases h1
end
theorem qM{T:List Token}{i:Nat}(h:i<T.length):T.drop i=T[i]::T.drop (i+1):=List.drop_eq_getElem_cons h
theorem wU{b:Nat}{F:aV}{A:Option Addr}{c:Nat}{T:List Token}{w W:World}{i:Nat}{e d:Int}(k:Int)(h:dB b F A c T w W i e d):
  Calls prog 146 #[.pointer (some ⟨b,0,none⟩),.int .i64 k] W fun en w'=>en=.returned (.tuple #[])∧dB b F A c T w w' i (uw e k) d:=by
 have hB:=h.box;have x2:=hB.at_ 2 _ rfl;have g2:=hB.free 2;have hle:=h.le;have HH:=ah h;clear h;clear hB
 by_cases he:e=0
 ·subst he;go_enter func146,ntmps146;go_wp2_with fail
  go_end0
  exact⟨rfl,HH.out.put 2 _ hle (by simp[uw])⟩
 ·have oN:(e==0)=false:=by simp[he]
  have hE:uw e k=e:=by unfold uw;rw[if_neg he]
  rw[hE];clear he hE;go_enter func146,ntmps146;go_wp2_with fail
  go_end0
  exact⟨rfl,HH.out⟩
def wH(b:Nat)(F:aV)(A:Option Addr)(c:Nat)(T:List Token)(w:World)(i:Nat)(e d:Int)(s:ByteArray)(en:Ending)(w':World):Prop:=∃z i',en=.returned (.bool z)∧Seen s T i e z i'∧dB b F A c T w w' i' e d
theorem SE{w:World}{F:aV}{A:Option Addr}{n c:Nat}{T:List Token}{i:Nat}(h:SliceOf fG 2 24 w F (.slice A n c) T)(hi:i<T.length):
  ∃p off,A=some ⟨p,off,none⟩∧F p∧I64 T[i].kind∧okS T[i].text∧w.cell? ⟨p,off+i*2,none⟩=some (.int .i64 T[i].kind)∧w.cell? ⟨p,off+i*2+1,none⟩=some (.string T[i].text):=by
 obtain⟨p,off,cs,rfl,hF,_,hR,hc⟩:=h.at_ (k:=i) hi;obtain⟨rfl,h1,h2⟩:cs= [.int .i64 T[i].kind,.string T[i].text]∧I64 T[i].kind∧okS T[i].text:=hR;exact⟨p,off,rfl,hF,h1,h2,by have:=hc 0 _ rfl;simpa using this,by have:=hc 1 _ rfl;simpa using this⟩
section
variable {b:Nat} {F:aV} {A:Option Addr} {c:Nat} {T:List Token} {w W:World} {i:Nat} {e d:Int}
theorem aiC(h:dB b F A c T w W i e d)(s:ByteArray)(he:e≠0):
  Calls prog 207 #[.pointer (some ⟨b,0,none⟩),.string s] W (wH b F A c T w i e d s):=by
 have hB:=h.box;have x2:=hB.at_ 2 _ rfl;have oN:(e==0)=false:=by simp[he]
 have an4:(e !=0)=true:=by simp[he]
 obtain⟨HH,HE⟩:=aj h he;clear h he;clear hB;go_enter func207,ntmps207;go_wp2_with fail;go_quiet(fail);go_wp2_with fail;go_ret;exact⟨false,i,rfl,.inl ⟨rfl,rfl,fun h=>absurd h HE.out⟩,HH.out.drewN _⟩
theorem aep(h:dB b F A c T w W i 0 d)(s:ByteArray)(hi:¬i<T.length):
  Calls prog 207 #[.pointer (some ⟨b,0,none⟩),.string s] W (wH b F A c T w i 0 d s):=by
 have hB:=h.box;have x0:=hB.at_ 0 _ rfl;have x1:=hB.at_ 1 _ rfl;have x2:=hB.at_ 2 _ rfl;have hlz:(T.length:Int)≤(i:Int):=by omega
 have akY:(i:Int)≥(T.length:Int):=by omega
 have hdr:T.drop i= []:=List.drop_eq_nil_iff.2 (by omega);obtain⟨HH,HDR⟩:=aj h hdr;clear h hdr;clear hB hi;go_enter func207,ntmps207;go_wp2_with fail;go_quiet(fail);go_wp2_with fail;go_ret;exact⟨false,i,rfl,.inl ⟨rfl,rfl,fun _=>by rw[HDR.out];rfl⟩,HH.out.drewN _⟩
theorem abL(h:dB b F A c T w W i 0 d)(s:ByteArray)(hlt:i<T.length)(hk:T[i].kind≠4):
  Calls prog 207 #[.pointer (some ⟨b,0,none⟩),.string s] W (wH b F A c T w i 0 d s):=by
 have hB:=h.box;have hlen:=h.len;have x0:=hB.at_ 0 _ rfl;have x1:=hB.at_ 1 _ rfl;have x2:=hB.at_ 2 _ rfl;have g1:=hB.free 1;obtain⟨p,off,rfl,ZN,hI,hO,c0,c1⟩:=SE h.toks hlt;clear hI hO;have hdr:eX s (T.drop i)=none:=by rw[qM hlt,mJ,if_neg];exact fun h=>hk h.1
 have ah8:decide (T.length≤i)=false:=by simp;omega
 have ah7:((i:Int)<(T.length:Int)):=by omega
 have hqz:(T[i].kind !=4)=true:=by simp[hk]
 generalize T[i].kind=kd at*;clear c1;obtain⟨HH,HDR⟩:=aj h hdr;clear h hdr;clear hB ZN hk;go_enter func207,ntmps207;go_wp2_with fail;go_quiet(fail);go_wp2_with fail;go_ret;exact⟨false,i,rfl,.inl ⟨rfl,rfl,fun _=>HDR.out⟩,HH.out.drewN _⟩
theorem abM(h:dB b F A c T w W i 0 d)(s:ByteArray)(hlt:i<T.length)(hk:T[i].kind=4)(ht:(T[i].text.toList==s.toList)=false):
  Calls prog 207 #[.pointer (some ⟨b,0,none⟩),.string s] W (wH b F A c T w i 0 d s):=by
 have hB:=h.box;have hlen:=h.len;have x0:=hB.at_ 0 _ rfl;have x1:=hB.at_ 1 _ rfl;have x2:=hB.at_ 2 _ rfl;have g1:=hB.free 1;obtain⟨p,off,rfl,ZN,hI,hO,c0,c1⟩:=SE h.toks hlt;clear hI hO;have hdr:eX s (T.drop i)=none:=by
  rw[qM hlt,mJ,if_neg];intro h;have h2:=h.2;unfold iT at h2;rw[ht]at h2;cases h2
 have ah8:decide (T.length≤i)=false:=by simp;omega
 have ah7:((i:Int)<(T.length:Int)):=by omega
 rw[hk]at c0;have htz:(!T[i].text.toList==s.toList)=true:=by simp only[ht];rfl
 generalize T[i].text=tx at*;generalize T[i].kind=kd at*;obtain⟨HH,HDR⟩:=aj h hdr;clear h hdr;clear hB ZN hk ht;go_enter func207,ntmps207;go_wp2_with fail;go_quiet(fail);go_wp2_with fail;go_ret;exact⟨false,i,rfl,.inl ⟨rfl,rfl,fun _=>HDR.out⟩,HH.out.drewN _⟩
theorem aer(h:dB b F A c T w W i 0 d)(s:ByteArray)(hlt:i<T.length)(hk:T[i].kind=4)(ht:(T[i].text.toList==s.toList)=true):
  Calls prog 207 #[.pointer (some ⟨b,0,none⟩),.string s] W (wH b F A c T w i 0 d s):=by
 have hB:=h.box;have hlen:=h.len;have x0:=hB.at_ 0 _ rfl;have x1:=hB.at_ 1 _ rfl;have x2:=hB.at_ 2 _ rfl;have g1:=hB.free 1;obtain⟨p,off,rfl,ZN,hI,hO,c0,c1⟩:=SE h.toks hlt;clear hI hO;have hdr:eX s (T.drop i)=some (T.drop (i+1)):=by
  rw[qM hlt,mJ,if_pos ⟨hk,ht⟩]
 have ah8:decide (T.length≤i)=false:=by simp;omega
 have ah7:((i:Int)<(T.length:Int)):=by omega
 rw[hk]at c0;have htz:(!T[i].text.toList==s.toList)=false:=by simp only[ht];rfl
 have hle:i+1≤T.length:=hlt;generalize T[i].text=tx at*;generalize T[i].kind=kd at*;obtain⟨HH,HDR⟩:=aj h hdr;clear h hdr;clear hB ZN hk ht;go_enter func207,ntmps207;go_wp2_with fail;go_quiet(fail);go_wp2_with fail;go_ret;exact⟨true,i+1,rfl,.inr ⟨rfl,rfl,HDR.out⟩,(HH.out.drewN _).put 1 _ hle (by simp)⟩
end
theorem jX{b:Nat}{F:aV}{A:Option Addr}{c:Nat}{T:List Token}{w W:World}{i:Nat}{e d:Int}(h:dB b F A c T w W i e d)(s:ByteArray):
  Calls prog 207 #[.pointer (some ⟨b,0,none⟩),.string s] W (wH b F A c T w i e d s):=by
 by_cases he:e=0
 ·subst he
  by_cases hlt:i<T.length
  ·by_cases hk:T[i].kind=4
   ·cases ht:(T[i].text.toList==s.toList)with
    |false=>exact abM h s hlt hk ht
    |true=>exact aer h s hlt hk ht
   ·exact abL h s hlt hk
  ·exact aep h s hlt
 ·exact aiC h s he
def anE(T:List Token)(i:Nat)(e:Int)(t:Token)(i':Nat):Prop:=(e=0∧T.drop i=t::T.drop i'∧t∈T)∨((e=0→T.drop i= [])∧t=⟨0,mt⟩∧i'=i)
def aeQ(b:Nat)(F:aV)(A:Option Addr)(c:Nat)(T:List Token)(w:World)(i:Nat)(e d:Int)(en:Ending)(w':World):Prop:=
 ∃t i',en=.returned (.agg #[.int .i64 t.kind,.string t.text])∧anE T i e t i'∧I64 t.kind∧okS t.text∧dB b F A c T w w' i' e d
theorem one_any{b:Nat}{F:aV}{A:Option Addr}{c:Nat}{T:List Token}{w W:World}{i:Nat}{e d:Int}(h:dB b F A c T w W i e d)(hb:b<w.heap.size):
  Calls prog 141 #[.pointer (some ⟨b,0,none⟩)] W (aeQ b F A c T w i e d):=by
 have hlt0:=h.lt;have hws:=h.size;have hle:=h.le;have hlen:=h.len
 by_cases hq:e=0∧i<T.length
 ·obtain⟨rfl,hlt⟩:=hq;have HH:=ah h;clear h;go_enter func141,ntmps141;go_upto_region 1 with fail
  have hBr:=Box.made W 182 #[.int .i64 0,.string ⟨#[]⟩];have hbr:Below W.heap.size W (W.alloc (.cells #[.int .i64 0,.string ⟨#[]⟩] 182)):=by go_grown
  have kJ:(W.alloc (.cells #[.int .i64 0,.string ⟨#[]⟩] 182)).heap.size=W.heap.size+1:=by simp
  generalize W.alloc (.cells #[.int .i64 0,.string ⟨#[]⟩] 182)=W1 at hBr hbr kJ⊢;have hL:=HH.out.below hbr;have hB:=hL.box;have hmem:T[i]∈T:=List.getElem_mem hlt;obtain⟨p,off,rfl,ZN,hk,htx,c0,c1⟩:=SE hL.toks hlt;have hdr:=qM hlt;have ah8:decide (T.length≤i)=false:=by simp;omega
  have ah7:((i:Int)<(T.length:Int)):=by omega
  have hcap:=(SG hL.toks).1;have hpb:p≠b:=fun e=>by have:=hL.foot p ZN;omega
  have hne:W.heap.size≠b:=by omega
  have hnp:p≠W.heap.size:=fun e=>by have:=hL.foot p ZN;omega
  generalize T[i]=t at*;obtain⟨kd,tx⟩:=t;dsimp only at*;have hle2:i+1≤T.length:=hlt;have x0:=hB.at_ 0 _ rfl;have x1:=hB.at_ 1 _ rfl;have x2:=hB.at_ 2 _ rfl;obtain⟨HL,HDR,HK,BK,C0,C1,amD,BO⟩:=aC hL hdr hk htx c0 c1 hmem hBr;clear hL hdr hk htx c0 c1 hmem hBr;clear hbr kJ hB ZN;go_quiet(fail);obtain⟨W2,hW2⟩:∃X,X=W1.drewN nq:=⟨_,rfl⟩;have hb2:Below W1.heap.size W1 W2:=by rw[hW2];exact below_drewN (Below.refl _ _) nq
  have hL:=HL.out.below hb2;have hBr:=BO.out.later hb2 BO.out.lt;have c0:W2.cell? ⟨p,off+i*2,none⟩=some (.int .i64 kd):=by rw[hW2];exact C0.out
  have c1:W2.cell? ⟨p,off+i*2+1,none⟩=some (.string tx):=by rw[hW2];exact C1.out
  have hB:=hL.box;rw[←hW2];clear hW2 x0 x1 x2 C0 C1;have x0:=hB.at_ 0 _ rfl;have x1:=hB.at_ 1 _ rfl;have g1:=hB.free 1;have hL2:=hL.put (e':=0) (d':=d) (i':=i+1) 1 (.int .i64 ((i:Int)+1)) hle2 (by simp);have hB2:=hL2.box;have c2:=(World.cell?_setCell_other W2 ⟨b,1,none⟩ ⟨p,off+i*2,none⟩ (.int .i64 ((i:Int)+1)) (fun e=>hpb (by injection e with e1;first|exact e1|exact e1.symm))).trans c0;have c3:=(World.cell?_setCell_other W2 ⟨b,1,none⟩ ⟨p,off+i*2+1,none⟩ (.int .i64 ((i:Int)+1)) (fun e=>hpb (by injection e with e1;first|exact e1|exact e1.symm))).trans c1;have hR2:=hBr.far (p:=⟨b,1,none⟩) hne (.int .i64 ((i:Int)+1));obtain⟨HL2,HB2,HR2,C2,C3⟩:=ay hL2 hB2 hR2 c2 c3;clear hL2 hB2 hR2 c2 c3;clear hBr hb2 hB HL hL HH c0 c1 BO;go_upto_region 4 with fail
  obtain⟨W3,hW3⟩:∃X,X=W2.setCell ⟨b,1,none⟩ (.int .i64 ((i:Int)+1)):=⟨_,rfl⟩;have hL:=HL2.out;have hB:=HB2.out;have hBr:=HR2.out;have c2:=C2.out;have c3:=C3.out;rw[←hW3]at hL hB hBr c2 c3⊢;clear HL2 HB2 HR2 C2 C3 x0 x1 g1 hW3;have x0:=hB.at_ 0 _ rfl;have x1:=hB.at_ 1 _ rfl;have z0:=hBr.at_ 0 _ rfl;have z1:=hBr.at_ 1 _ rfl;have q0:=hBr.free 0;have q1:=hBr.free 1;have hi1:IntKind.i64.wrap (i:Int)=(i:Int):=IntWalk.i64_in _ (by omega);have HL:=ah hL;clear hL;clear hB hBr;go_still_tail 11,(by kernel_rfl);change wpList _ _ _ _ _ W3.drew;go_wp2_with fail;refine bodyPost_ret (v:=.agg #[.int .i64 kd,.string tx]) (by simp[results,results141,go_sem,z0,z1]) rfl ?_;exact⟨⟨kd,tx⟩,i+1,rfl,.inl ⟨rfl,HDR.out,amD.out⟩,HK.out,BK.out,(HL.out.drew.set (p:=⟨W.heap.size,0,none⟩) hws hb _).set (p:=⟨W.heap.size,1,none⟩) hws hb _⟩
 ·by_cases he:e=0
  ·subst he;have hlt:¬i<T.length:=fun h=>hq ⟨rfl,h⟩
   have hdr:T.drop i= []:=List.drop_eq_nil_iff.2 (by omega);have hlz:(T.length:Int)≤(i:Int):=by omega
   obtain⟨HH,HDR⟩:=aj h hdr;clear h hdr;clear hq hlt;go_enter func141,ntmps141;go_upto_region 1 with fail
   have hBr:=Box.made W 182 #[.int .i64 0,.string ⟨#[]⟩];have hbr:Below W.heap.size W (W.alloc (.cells #[.int .i64 0,.string ⟨#[]⟩] 182)):=by go_grown
   have kJ:(W.alloc (.cells #[.int .i64 0,.string ⟨#[]⟩] 182)).heap.size=W.heap.size+1:=by simp
   generalize W.alloc (.cells #[.int .i64 0,.string ⟨#[]⟩] 182)=W1 at hBr hbr kJ⊢;have hL:=HH.out.below hbr;have hB:=hL.box;have x0:=hB.at_ 0 _ rfl;have x1:=hB.at_ 1 _ rfl;have x2:=hB.at_ 2 _ rfl;obtain⟨HL,Eb⟩:=aj hL hBr;clear hL hBr;clear hB hbr kJ;go_quiet(fail);obtain⟨W2,hW2⟩:∃X,X=W1.drewN nq:=⟨_,rfl⟩;have hb2:Below W1.heap.size W1 W2:=by rw[hW2];exact below_drewN (Below.refl _ _) nq
   have hL:=HL.out.below hb2;have hBr:=Eb.out.later hb2 Eb.out.lt;rw[←hW2];clear hW2 x0 x1 x2 hb2;have z0:=hBr.at_ 0 _ rfl;have z1:=hBr.at_ 1 _ rfl;have q0:=hBr.free 0;have q1:=hBr.free 1;have HL2:=ah hL;clear hL;clear HL Eb HH hBr;go_wp2_with fail;refine bodyPost_ret (v:=.agg #[.int .i64 0,.string mt]) (by simp[results,results141,go_sem,z0,z1,mt]) rfl ?_;exact⟨⟨0,mt⟩,i,rfl,.inr ⟨fun _=>HDR.out,rfl,rfl⟩,⟨by decide,by decide⟩,by unfold okS mt;decide,(HL2.out.set (p:=⟨W.heap.size,0,none⟩) hws hb _).set (p:=⟨W.heap.size,1,none⟩) hws hb _⟩
  ·have oN:(e==0)=false:=by simp[he]
   have an4:(e !=0)=true:=by simp[he]
   obtain⟨HH,HE⟩:=aj h he;clear h he;clear hq;go_enter func141,ntmps141;go_upto_region 1 with fail
   have hBr:=Box.made W 182 #[.int .i64 0,.string ⟨#[]⟩];have hbr:Below W.heap.size W (W.alloc (.cells #[.int .i64 0,.string ⟨#[]⟩] 182)):=by go_grown
   have kJ:(W.alloc (.cells #[.int .i64 0,.string ⟨#[]⟩] 182)).heap.size=W.heap.size+1:=by simp
   generalize W.alloc (.cells #[.int .i64 0,.string ⟨#[]⟩] 182)=W1 at hBr hbr kJ⊢;have hL:=HH.out.below hbr;have hB:=hL.box;have x0:=hB.at_ 0 _ rfl;have x1:=hB.at_ 1 _ rfl;have x2:=hB.at_ 2 _ rfl;obtain⟨HL,Eb⟩:=aj hL hBr;clear hL hBr;clear hB hbr kJ;go_quiet(fail);obtain⟨W2,hW2⟩:∃X,X=W1.drewN nq:=⟨_,rfl⟩;have hb2:Below W1.heap.size W1 W2:=by rw[hW2];exact below_drewN (Below.refl _ _) nq
   have hL:=HL.out.below hb2;have hBr:=Eb.out.later hb2 Eb.out.lt;rw[←hW2];clear hW2 x0 x1 x2 hb2;have z0:=hBr.at_ 0 _ rfl;have z1:=hBr.at_ 1 _ rfl;have q0:=hBr.free 0;have q1:=hBr.free 1;have HL2:=ah hL;clear hL;clear HL Eb HH hBr;go_wp2_with fail;refine bodyPost_ret (v:=.agg #[.int .i64 0,.string mt]) (by simp[results,results141,go_sem,z0,z1,mt]) rfl ?_;exact⟨⟨0,mt⟩,i,rfl,.inr ⟨fun h=>absurd h HE.out,rfl,rfl⟩,⟨by decide,by decide⟩,by unfold okS mt;decide,(HL2.out.set (p:=⟨W.heap.size,0,none⟩) hws hb _).set (p:=⟨W.heap.size,1,none⟩) hws hb _⟩
def jP{α:Type}(V:World→aV→Value→α→Prop)(b:Nat)(F:aV)(A:Option Addr)(c:Nat)(T:List Token)(W:World)(p:Pr α)(i:Nat)(e d:Int)(en:Ending)(w':World):Prop:=
 ∃x v i' e',en=.returned v∧V w' (fresh W.heap.size w'.heap.size) v x∧St (Rs p T i e) (bJ x) T i' e'∧dB b F A c T W w' i' e' d
section
variable {b:Nat} {F:aV} {A:Option Addr} {c:Nat} {T:List Token} {w W:World} {i:Nat} {e d:Int}
theorem jO(h:dB b F A c T W W i e d)(s:ByteArray):
  Calls prog 143 #[.pointer (some ⟨b,0,none⟩),.string s] W (jP aj9 b F A c T W (dG s) i e d):=by
 have hs:=jX h s;have HS:=ah hs;clear hs;clear h;go_enter func143,ntmps143;go_wp2_with fail;refine HS.out.mono ?_;rintro en w' ⟨z,i',rfl,hz,hl⟩;cases z with
 |true=>
  obtain⟨HZ,HL⟩:=aj hz hl;clear hz hl;go_wp2_with fail
  go_end0
  refine⟨(),_,i',e,rfl,rfl,?_,HL.out⟩;rcases HZ.out with ⟨h,_⟩|⟨_,h0,h1⟩
  ·cases h
  ·exact(St.start (dG s)).eq (fun _=>iH h1)
 |false=>
  have hb:=wU 4 hl;obtain⟨HZ,HB⟩:=aj hz hb;clear hz hb;clear hl;go_wp2_with fail;refine HB.out.mono ?_;rintro en w2 ⟨rfl,hl⟩;have HL:=ah hl;clear hl;go_wp2_with fail
  go_end0
  rcases HZ.out with ⟨_,rfl,h1⟩|⟨h,_⟩
  ·exact⟨(),_,_,_,rfl,rfl,(St.start (dG s)).bad (fun h0=>jy (h1 h0)) (by decide),HL.out⟩
  ·cases h
theorem ou(h:dB b F A c T W W i e d):
  Calls prog 142 #[.pointer (some ⟨b,0,none⟩)] W (jP aj8 b F A c T W fJ i e d):=by
 have hs:=one_any h h.lt;have HS:=ah hs;clear hs;clear h;go_enter func142,ntmps142;go_wp2_with fail;refine HS.out.mono ?_;rintro en W1 ⟨t,i',rfl,hN,hk,htx,hL⟩;have hid:=fun U=>fU t.text U htx
 obtain⟨z,hz⟩:∃z,(aX t.text)=z:=⟨_,rfl⟩;rw[hz]at hid;have Z:=Lib.hid hz;clear hz;obtain⟨TI,HN,BK⟩:=ak hid hN htx;clear hid hN htx;go_upto_region 2 with fail
 have hBt:=Box.made W1 182 #[.int .i64 t.kind,.string t.text];have hbt:Below W1.heap.size W1 (W1.alloc (.cells #[.int .i64 t.kind,.string t.text] 182)):=by go_grown
 have pW:(W1.alloc (.cells #[.int .i64 t.kind,.string t.text] 182)).heap.size=W1.heap.size+1:=by simp
 generalize W1.alloc (.cells #[.int .i64 t.kind,.string t.text] 182)=W2 at hBt hbt pW⊢;have hL2:=hL.below hbt;have hb:=fun U (hU:Below W2.heap.size W2 U)=>wU 4 (hL2.below hU).start
 have x0:=hBt.at_ 0 _ rfl;have x1:=hBt.at_ 1 _ rfl;have hnb:W1.heap.size≠b:=by have:=hL.lt;omega
 obtain⟨HL,HB,HBAD⟩:=ak hL2 hBt hb;clear hL2 hBt hb;clear hbt pW hL;have hbad:¬(t.kind=1∧z=true)→e=0→fJ (T.drop i)=.error 4:=fun hn h0=>by
  rcases HN.out with ⟨_,h1,_⟩|⟨h1,_,_⟩
  ·rw[h1,kT,if_neg (by rw[Z.out];exact hn)]
  ·rw[h1 h0];rfl
 have hgood:(t.kind=1∧z=true)→e=0→fJ (T.drop i)=.ok (t.text,T.drop i'):=fun hn h0=>by
  rcases HN.out with ⟨_,h1,_⟩|⟨_,h1,_⟩
  ·rw[h1,kT,if_pos (by rw[Z.out];exact hn)]
  ·rw[h1]at hn;exact absurd hn.1 (by decide)
 obtain⟨XB,jk⟩:=aj hbad hgood;clear hbad hgood;cases hq:(t.kind==1)with
 |false=>
  have HQ:=ah hq;have hqz:(t.kind !=1)=true:=by simp only[bne,hq];rfl
  go_wp2_with fail;refine(HBAD.out _ (by go_grown)).mono ?_;rintro en w2 ⟨rfl,hl⟩;have hB2:=hl.grew.jm HB.out hnb;have hL3:=HL.out.trans hl;clear x0 x1;have x0:=hB2.at_ 0 _ rfl;have x1:=hB2.at_ 1 _ rfl;have BP:=ah hL3;clear hL3;clear hB2 hl;go_wp2_with fail;go_ret;exact⟨t.text,_,i',uw e 4,rfl,⟨rfl,BK.out⟩,(St.start fJ).bad (fun h0=>XB.out (fun h=>by have:=HQ.out;simp at this;exact this h.1) h0) (by decide),BP.out⟩
 |true=>
  have HQ:=ah hq;have hqz:(t.kind !=1)=false:=by simp only[bne,hq];rfl
  cases z with
  |false=>
   go_wp2_with(go_at_call 98;(with_reducible refine(TI.out _).mono ?_);rintro en w' ⟨rfl,rfl⟩);refine(HBAD.out _ (by go_grown)).mono ?_;rintro en w2 ⟨rfl,hl⟩;have hB2:=hl.grew.jm HB.out hnb;have hL3:=HL.out.trans hl;clear x0 x1;have x0:=hB2.at_ 0 _ rfl;have x1:=hB2.at_ 1 _ rfl;have BP:=ah hL3;clear hL3;clear hB2 hl;go_wp2_with fail;go_ret;exact⟨t.text,_,i',uw e 4,rfl,⟨rfl,BK.out⟩,(St.start fJ).bad (fun h0=>XB.out (fun h=>by cases h.2) h0) (by decide),BP.out⟩
  |true=>
   go_wp2_with(go_at_call 98;(with_reducible refine(TI.out _).mono ?_);rintro en w' ⟨rfl,rfl⟩);go_ret;exact⟨t.text,_,i',e,rfl,⟨rfl,BK.out⟩,(St.start fJ).eq (fun h0=>jk.out ⟨by simpa using HQ.out,(by first|rfl|trivial)⟩ h0),HL.out⟩
theorem O9(h:dB b F A c T w W i e d)(h0:0≤d)(hd:d<40):
  Calls prog 208 #[.pointer (some ⟨b,0,none⟩)] W fun en w'=>en=.returned (.tuple #[])∧dB b F A c T w w' i e (d+1):=by
 have hB:=h.box;have hle:=h.le;have x3:=hB.at_ 3 _ rfl;have g3:=hB.free 3;have hz:decide ((40:Int)<d+1)=false:=by simp;omega
 have HH:=ah h;clear h;clear hB;go_enter func208,ntmps208;go_wp2_with fail
 go_end0
 exact⟨rfl,HH.out.put 3 _ hle (by simp)⟩
theorem O8(h:dB b F A c T w W i e 40):
  Calls prog 208 #[.pointer (some ⟨b,0,none⟩)] W fun en w'=>en=.returned (.tuple #[])∧dB b F A c T w w' i (uw e 1) 41:=by
 have hB:=h.box;have hb:=wU 1 (h.put (e':=e) (d':=41) (i':=i) 3 (.int .i64 41) h.le (by simp));have x3:=hB.at_ 3 _ rfl;have g3:=hB.free 3;obtain⟨HH,HB⟩:=aj h hb;clear h hb;clear hB;go_enter func208,ntmps208;go_wp2_with fail;refine HB.out.mono ?_;rintro en w2 ⟨rfl,hl⟩;have HL:=ah hl;clear hl;go_wp2_with fail
 go_end0
 exact⟨rfl,HL.out⟩
end
def zC(b:Nat)(F:aV)(A:Option Addr)(c:Nat)(T:List Token)(f:Nat):Prop:=∀(W:World) (i:Nat) (e d:Int),dB b F A c T W W i e d→d+f=40→0≤d→
 Calls prog 209 #[.pointer (some ⟨b,0,none⟩)] W (jP (zA dN) b F A c T W (bV f) i e d)
def left(T:List Token)(i:Nat)(e:Int):Nat:=if e=0 then(T.drop i).length+1 else 0
section
variable {α β:Type} {R:Except Int (β×List Token)} {T:List Token} {i i':Nat} {e e':Int} {s:ByteArray} {p:Pr α} {x:α}
theorem left_ok:left T i 0=(T.drop i).length+1:=rfl
theorem left_le:left T i e≤T.length+1:=by
 unfold left;split
 ·rw[List.length_drop];omega
 ·omega
theorem Bo:left T i e≤(T.drop i).length+1:=by
 unfold left;split
 ·exact aJ _
 ·omega
theorem GY(h:Seen s T i e true i'):e=0∧left T i' 0+1=left T i e:=by
 rcases h with ⟨h,_⟩|⟨_,rfl,h⟩
 ·cases h
 ·have:=take_len h;exact⟨rfl,by rw[left_ok,left_ok];omega⟩
theorem mD(hp:Short p)(h:St (Rs p T i e) (bJ x) T i' e'):left T i' e'≤left T i e:=by
 unfold Rs at h;rcases h with ⟨rfl,h⟩|⟨h0,h⟩
 ·by_cases he:e=0
  ·subst he;rw[if_pos rfl]at h;have:=hp _ _ _ h;rw[left_ok,left_ok];omega
  ·rw[if_neg he]at h;cases h
 ·unfold left;rw[if_neg h0];exact Nat.zero_le _
end
section
variable {β:Type} {R:Except Int (β×List Token)} {T:List Token} {i i':Nat} {e:Int} {ex:Pr Ex} {m:Nat} {xs:List Ex} {K:List Ex→Pr β}
theorem Sz(h:St R (aO (lS ex m xs) K) T i e)(hs:Seen nS T i e false i'):i'=i∧St R (K xs) T i e:=by
 rcases hs with ⟨_,rfl,hn⟩|⟨h,_⟩
 ·exact⟨rfl,h.eq (fun h0=>bI (PW (hn h0)))⟩
 ·cases h
theorem Ze(h:St R (aO (lS ex m xs) K) T i e)(hs:Seen nS T i e true i')(hm:left T i e≤m+1):∃m',m=m'+1∧St R (aO ex fun y=>aO (lS ex m' (xs++ [y])) K) T i' 0:=by
 rcases hs with ⟨h1,_⟩|⟨_,rfl,hn⟩
 ·cases h1
 ·have h1:=take_len hn;rw[left_ok]at hm;obtain⟨m',rfl⟩:∃m',m=m'+1:=⟨m-1,by omega⟩;refine⟨m',rfl,h.eq (fun _=>?_)⟩;rw[←jV];have e2:lS ex (m'+1) xs (T.drop i)=aO ex (fun y=>lS ex m' (xs++ [y])) (T.drop i'):=dW hn;unfold aO at e2⊢;rw[e2]
end
theorem ac7{b:Nat}{F:aV}{A:Option Addr}{c:Nat}{T:List Token}{f:Nat}(hx:zC b F A c T f)(W:World)(i:Nat)(e d:Int)(s:ByteArray)(h:dB b F A c T W W i e d)(hd:d+f=40)(h0:0≤d):
  Calls prog 283 #[.pointer (some ⟨b,0,none⟩),.string s] W (jP (SlV dN 5 72) b F A c T W (rV (bV f) s) i e d):=by
 have hst:St (Rs (rV (bV f) s) T i e) (rV (bV f) s) T i e:=St.start _;obtain⟨R,hR⟩:∃R,Rs (rV (bV f) s) T i e=R:=⟨_,rfl⟩;unfold jP;rw[hR]at hst⊢;have hbl:=h.lt;have aa3:=h.len;have hcx:=hx W i e d h hd h0;have hlw:left T i e≤T.length+1:=left_le;obtain⟨HX,HH,xI,HST⟩:=au hx h hcx hst;clear hx h hcx hst;clear hR;go_enter func283,ntmps283;go_wp2_with fail;refine xI.out.mono ?_;rintro en W1 ⟨x,v,i1,e1,rfl,⟨cs,rfl,hX⟩,hst1,hl1⟩;have hs1:=mD (ji f) hst1;have hst2:St R (aO (lS (bV f) (T.drop i1).length [x]) fun xs=>aO (dG s) fun _=>bJ xs) T i1 e1:=(HST.out.then_ hst1).eq (fun _=>rfl);obtain⟨A1,c1,rfl⟩:=dN.form hX;obtain⟨ajP,tN,Ed⟩:=ak hst2 hX hl1;clear hst2 hX hl1;clear hst1 HST xI;go_wp2_with fail;have hBb:=Box.made W1 81 #[.int .i64 x.kind,.int .i64 x.n,.string x.bT,.string x.s,.slice A1 x.args.length c1];have hbb:Below W1.heap.size W1 (W1.alloc (.cells #[.int .i64 x.kind,.int .i64 x.n,.string x.bT,.string x.s,.slice A1 x.args.length c1] 81)):=by go_grown
 have hzb:(W1.alloc (.cells #[.int .i64 x.kind,.int .i64 x.n,.string x.bT,.string x.s,.slice A1 x.args.length c1] 81)).heap.size=W1.heap.size+1:=by simp
 generalize W1.alloc (.cells #[.int .i64 x.kind,.int .i64 x.n,.string x.bT,.string x.s,.slice A1 x.args.length c1] 81)=W2 at hBb hbb hzb⊢;have hw1:=Ed.out.size;have hO:aZ dN 5 81 W.heap.size W2 (fresh W.heap.size W1.heap.size) (.slice (some ⟨W1.heap.size,0,none⟩) 1 1) [x]:=
  aZ.one (cs:= [.int .i64 x.kind,.int .i64 x.n,.string x.bT,.string x.s,.slice A1 x.args.length c1]) hBb hw1 rfl (dN.stays.later tN.out hbb cZ) (fun k hk=>⟨by have:=hk.2;have:=hbb.size;omega,by have:=hk.2;omega⟩)
 have hL2:=Ed.out.below hbb;obtain⟨HO,HL2⟩:=aj hO hL2;clear hO hL2;clear hBb hbb hzb Ed tN;go_loopg [5] (left T i1 e1) (fun gg s5 wr=>∃(m c2:Nat) (A2:Option Addr) (xs:List Ex) (j:Nat) (e2:Int) (G:aV),s5=.slice A2 xs.length c2∧left T j e2≤gg∧left T j e2≤m+1∧xs.length+left T j e2≤202∧Aside (St R (aO (lS (bV f) m xs) fun xs=>aO (dG s) fun _=>bJ xs) T j e2)∧Aside (dB b F A c T W wr j e2 d)∧
  Aside (aZ dN 5 81 W.heap.size wr G (.slice A2 xs.length c2) xs)∧Aside (∀k,G k→W.heap.size≤k))
 case atStart=>exact⟨(T.drop i1).length,1,_,[x],i1,e1,_,rfl,aJ _,Bo,by rw[List.length_singleton];omega,aside ajP.out,aside HL2.out,aside HO.out,aside (fun k hk=>hk.1)⟩
 case round=>
  clear ajP HL2 HO;obtain⟨m,c3,A3,xs,j,e2,G,rfl,hg,hm,ahG,hM,hLk,hO3,hG⟩:=hrel;obtain⟨W3,rfl⟩:∃W,W=wr:=⟨_,rfl⟩;have htk:=jX hLk.out.start nS;have qR:=ah htk;clear htk;go_wp2_with fail;refine qR.out.mono ?_;rintro en W4 ⟨z,j4,rfl,hz,hl4⟩;have qh:=hLk.out.trans hl4;have hO4:=hO3.out.read dN.stays hl4.grew hbl hG.out;cases z with
  |true=>
   obtain⟨m',rfl,jB⟩:=Ze hM.out hz hm;obtain⟨rfl,hlt⟩:=GY hz;have hcx:=HX.out W4 j4 0 d hl4.start hd h0;have hrow:∀k,(Value.slice A3 xs.length c3).ownBlock=some k→k<W4.heap.size:=fun k hk=>(hO4.row hk).2
   obtain⟨agU,zl,AZ,zF,aaH,HG⟩:=aA hcx hO4 qh hrow jB hG;clear hcx hO4 qh hrow jB hG;clear hl4 hO3 hLk qR hM hz;go_wp2_with fail;refine agU.out.mono ?_;rintro en W5 ⟨y,v,j5,e5,rfl,⟨cs,rfl,hY⟩,hst5,hl5⟩;have hs5:=mD (ji f) hst5;have kL:=aaH.out.then_ hst5;have sF:=zl.out.read dN.stays hl5.grew hbl HG.out;have oC:=AZ.out.trans hl5;have h45:=hl5.size;obtain⟨A5,c5,rfl⟩:=dN.form hY;have hw4:=AZ.out.size;obtain⟨TP,uZ,xJ,vT⟩:=au kL hY sF oC;clear kL hY sF oC;clear hl5 hst5 AZ zl aaH;go_wp2_with(at_builtin;go_must((refine bH dN.stays (.agg #[.int .i64 0,.int .i64 0,.string ⟨#[]⟩,.string ⟨#[]⟩,.slice none 0 0]) [.int .i64 y.kind,.int .i64 y.n,.string y.bT,.string y.s,.slice A5 y.args.length c5] y rfl rfl underlying79 (bytes:=72) (by kernel_rfl) xJ.out rfl rfl (by decide) rfl rfl uZ.out (Qb uZ.out) (fun k hk=>⟨hk.2,fun e=>by have:=zF.out k e.symm;have:=hk.1;omega⟩) (by unfold maxLen;omega) (by omega) (by omega) ?_);(intro A6 c6 W7 mV hgr _;have Jt:=Lib.hid (vT.out.then_ hgr hbl);have uq:=Lib.hid mV;clear mV hgr)));go_roundg (left T j5 e5)
   case measure=>omega
   case rel=>
    exact⟨m',c6,A6,xs++ [y],j5,e5,(fun k=>G k∨fresh W4.heap.size W5.heap.size k),by simp,aJ _,by omega,by rw[List.length_append,List.length_singleton];omega,aside TP.out,aside Jt.out,aside (by simpa using uq.out),aside (fun k hk=>hk.elim (HG.out k) (fun h=>by have:=h.1;omega))⟩
  |false=>
   obtain⟨rfl,jB⟩:=Sz hM.out hz;have hms:=jO hl4.start s;obtain⟨qj,AZ,zl,aaH⟩:=au hms qh hO4 jB;clear hms qh hO4 jB;clear hl4 hO3 hLk qR hz hM;go_wp2_with fail;refine qj.out.mono ?_;rintro en W5 ⟨_,_,j5,e5,rfl,rfl,hst5,hl5⟩;have kL:St R (bJ xs) T j5 e5:=aaH.out.then_ hst5;have sF:=zl.out.read dN.stays hl5.grew hbl hG.out;have oC:=AZ.out.trans hl5;obtain⟨TP,xJ,vT⟩:=ak kL sF oC;clear kL sF oC;clear hl5 hst5;go_wp2_with fail;go_ret;exact⟨xs,_,j5,e5,rfl,xJ.out.slice dN.stays (fun k hk=>⟨hG.out k hk,(xJ.out.foot hk).1⟩) (fun k h1 h2=>⟨h1,h2⟩) (by omega) (by omega),TP.out,vT.out⟩
structure jl(b:Nat)(F:aV)(A:Option Addr)(c:Nat)(T:List Token)(W:World)(rt:TypeId)(rc:Array Value)(n:Nat)(cs:Array Value)(W':World)(i:Nat)(e d:Int):Prop where
 sight:dB b F A c T W W' i e d
 res:Box W' W.heap.size rt rc
 out:Box W' n rt cs
 lt:b<W.heap.size
 le:W.heap.size<n
section
variable {b:Nat} {F:aV} {A:Option Addr} {c:Nat} {T:List Token} {w W W' W2:World} {i i':Nat} {e e' d d':Int} {rt:TypeId} {rc cs:Array Value} {n:Nat}
theorem jl.go(h:jl b F A c T W rt rc n cs W' i e d)(k:dB b F A c T W' W2 i' e' d'):jl b F A c T W rt rc n cs W2 i' e' d':=
 ⟨h.sight.trans k,k.grew.jm h.res (fun e=>by have:=h.lt;omega),k.grew.jm h.out (fun e=>by have:=h.lt;have:=h.le;omega),h.lt,h.le⟩
theorem jl.below(h:jl b F A c T W rt rc n cs W' i e d)(hb:Below W'.heap.size W' W2):jl b F A c T W rt rc n cs W2 i e d:=
 ⟨h.sight.below hb,h.res.later hb h.res.lt,h.out.later hb h.out.lt,h.lt,h.le⟩
theorem jl.set(h:jl b F A c T W rt rc n cs W' i e d)(j:Nat)(u:Value):jl b F A c T W rt rc n (cs.setIfInBounds j u) (W'.setCell ⟨n,j,none⟩ u) i e d:=
 ⟨h.sight.set (p:=⟨n,j,none⟩) (Nat.le_of_lt h.le) h.lt u,h.res.far (p:=⟨n,j,none⟩) (fun e=>Nat.ne_of_lt h.le (by first|exact e|exact e.symm)) u,h.out.put j u,h.lt,h.le⟩
theorem jl.start(h:jl b F A c T W rt rc n cs W' i e d):dB b F A c T W' W' i e d:=h.sight.start
theorem jl.ne(h:jl b F A c T W rt rc n cs W' i e d):n≠W.heap.size∧n≠b∧W.heap.size≠b:=⟨by have:=h.le;omega,by have:=h.le;have:=h.lt;omega,by have:=h.lt;omega⟩
end
def ae5(b:Nat)(F:aV)(A:Option Addr)(c:Nat)(T:List Token)(W:World)(R:Except Int (Ty×List Token))(n:Nat)(d:Int)(w':World):Prop:=
 ∃x i' e' c0 c1 c2 c3,jl b F A c T W 75 #[.int .i64 0,.string ⟨#[]⟩,.string ⟨#[]⟩,.slice none 0 0] n #[c0,c1,c2,c3] w' i' e' d∧iD w' (fresh (n+1) w'.heap.size) [c0,c1,c2,c3] x∧St R (bJ x) T i' e'
theorem KE{b:Nat}{F:aV}{A:Option Addr}{c:Nat}{T:List Token}{W:World}{i f:Nat}{e d:Int}(h:dB b F A c T W W i e d)(hd:d+f=40)(h0:0≤d)
  (ih:∀f',f=f'+1→∀U j k,dB b F A c T U U j k (d+1)→Calls prog 144 #[.pointer (some ⟨b,0,none⟩)] U (jP (zA iD) b F A c T U (iM f') j k (d+1))):
  Calls prog 144 #[.pointer (some ⟨b,0,none⟩)] W (jP (zA iD) b F A c T W (iM f) i e d):=by
 obtain⟨e1,hdn,hst,he1⟩:∃e1,(∀U,Below W.heap.size W U→Calls prog 208 #[.pointer (some ⟨b,0,none⟩)] U fun en w'=>en=.returned (.tuple #[])∧dB b F A c T U w' i e1 (d+1))∧St (Rs (iM f) T i e) (iM f) T i e1∧(e1=0→∃f',f=f'+1):=by
  cases f with
  |zero=>
   obtain rfl:d=40:=by omega
   refine⟨uw e 1,fun U hU=>O8 (h.below hU).start,(St.start _).bad (fun _=>rfl) (by decide),fun h=>?_⟩;unfold uw at h;split at h
   ·cases h
   ·exact absurd h ‹_›
  |succ f=>exact⟨e,fun U hU=>O9 (h.below hU).start h0 (by omega),St.start _,fun _=>⟨f,rfl⟩⟩
 obtain⟨R,hR⟩:∃R,Rs (iM f) T i e=R:=⟨_,rfl⟩;unfold jP;rw[hR]at hst⊢;have hbl:=h.lt;obtain⟨HDN,HST,IH,HH,vk⟩:=ay hdn hst ih h he1;clear hdn hst ih h he1;clear hR;go_enter func144,ntmps144;go_upto_region 1 with fail
 have hBr:=Box.made W 75 #[.int .i64 0,.string ⟨#[]⟩,.string ⟨#[]⟩,.slice none 0 0];have hbr:Below W.heap.size W (W.alloc (.cells #[.int .i64 0,.string ⟨#[]⟩,.string ⟨#[]⟩,.slice none 0 0] 75)):=by go_grown
 have kJ:(W.alloc (.cells #[.int .i64 0,.string ⟨#[]⟩,.string ⟨#[]⟩,.slice none 0 0] 75)).heap.size=W.heap.size+1:=by simp
 generalize W.alloc (.cells #[.int .i64 0,.string ⟨#[]⟩,.string ⟨#[]⟩,.slice none 0 0] 75)=W1 at hBr hbr kJ⊢;have hs1:=HH.out.below hbr;have hlr:=hBr.lt;obtain⟨Hb,Eb,Jv⟩:=ak hbr hBr hs1;clear hbr hBr hs1;clear kJ;go_wp2_with fail;refine(HDN.out _ Hb.out).mono ?_;rintro en W2 ⟨rfl,hl⟩;have hs2:=Jv.out.trans hl;have hB2:=hl.grew.jm Eb.out (by omega);have ain:=hl.grew.size;clear hl Eb Jv Hb;go_upto_region 3 with fail
 have Di:=Box.made W2 75 #[.int .i64 0,.string ⟨#[]⟩,.string ⟨#[]⟩,.slice none 0 0];have ni:Below W2.heap.size W2 (W2.alloc (.cells #[.int .i64 0,.string ⟨#[]⟩,.string ⟨#[]⟩,.slice none 0 0] 75)):=by go_grown
 have Iu:(W2.alloc (.cells #[.int .i64 0,.string ⟨#[]⟩,.string ⟨#[]⟩,.slice none 0 0] 75)).heap.size=W2.heap.size+1:=by simp
 generalize W2.alloc (.cells #[.int .i64 0,.string ⟨#[]⟩,.string ⟨#[]⟩,.slice none 0 0] 75)=W3 at Di ni Iu⊢;obtain⟨n,hn⟩:∃n,W2.heap.size=n:=⟨_,rfl⟩;have hdi:jl b F A c T W 75 #[.int .i64 0,.string ⟨#[]⟩,.string ⟨#[]⟩,.slice none 0 0] W2.heap.size #[.int .i64 0,.string ⟨#[]⟩,.string ⟨#[]⟩,.slice none 0 0] W3 i e1 (d+1):=
  ⟨hs2.below ni,hB2.later ni hB2.lt,Di,hbl,by omega⟩
 rw[hn]at hdi⊢;clear hs2 hB2 Di ni Iu hn ain hlr W1 W2;have hB:=hdi.sight.box;have x2:=hB.at_ 2 _ rfl;have HD:=ah hdi;clear hdi;clear hB;go_upto_if 12 with (fail)
 go_cut [] (fun wc=>ae5 b F A c T W R n (d+1) wc)
 case first=>
  by_cases hz:e1=0
  ·obtain⟨f',rfl⟩:=vk.out hz;subst hz;have uM:=jX HD.out.start Vt;have hst:St R (iL Vt (aO (iM f') fun t=>aO (dG Xz) fun _=>bJ (.mk 3 mt mt [t])) uS) T i 0:=HST.out;obtain⟨XQ,HS⟩:=aj uM hst;clear uM hst;clear HDN HST vk;go_wp2_with fail;refine XQ.out.mono ?_;rintro en W4 ⟨z,i',rfl,hz,hl⟩;have hd4:=HD.out.go hl;clear hl;cases z with
   |true=>
    have hst:=HS.out.yes hz;have hB:=hd4.out;have y0:=hB.at_ 0 _ rfl;have g0:=hB.free 0;obtain⟨HD4,HST⟩:=aj hd4 hst;clear hd4 hst;clear hB XQ hz;go_upto_region 6 with fail
    obtain⟨W5,hW5⟩:∃X,X=W4.setCell ⟨n,0,none⟩ (.int .i64 3):=⟨_,rfl⟩;have hd5:jl b F A c T W 75 #[.int .i64 0,.string ⟨#[]⟩,.string ⟨#[]⟩,.slice none 0 0] n #[.int .i64 3,.string ⟨#[]⟩,.string ⟨#[]⟩,.slice none 0 0] W5 i' 0 (d+1):=by rw[hW5];exact HD4.out.set 0 _
    rw[←hW5];have hk:=IH.out f' rfl _ _ _ hd5.start;obtain⟨HD5,HK⟩:=aj hd5 hk;clear hd5 hk;clear hW5 g0 y0 HD4;go_wp2_with fail;refine HK.out.mono ?_;rintro en W6 ⟨x,v,i2,e2,rfl,⟨cs,rfl,hX⟩,hst2,hl2⟩;have hd6:=HD5.out.go hl2;have hst3:St R (aO (dG Xz) fun _=>bJ (.mk 3 mt mt [x])) T i2 e2:=HST.out.then_ hst2;obtain⟨A2,c2,rfl⟩:=iD.form hX;have hg:=fun o=>(hd6.out.later ((Below.refl _ _).alloc (aJ _) o) hd6.out.lt).free 3
    have hy:=fun o=>(hd6.out.later ((Below.refl _ _).alloc (aJ _) o) hd6.out.lt).at_ 3 _ rfl
    have h56:=hl2.grew.size;have h05:=HD5.out.sight.size;obtain⟨HD6,HX,NI⟩:=ak hd6 hX hst3;clear hd6 hX hst3;clear hl2 hst2;go_upto_region 7 with fail
    have hBv:=Box.made W6 75 #[.int .i64 x.kind,.string x.bT,.string x.name,.slice A2 x.args.length c2];have hbv:Below W6.heap.size W6 (W6.alloc (.cells #[.int .i64 x.kind,.string x.bT,.string x.name,.slice A2 x.args.length c2] 75)):=by go_grown
    have hzv:(W6.alloc (.cells #[.int .i64 x.kind,.string x.bT,.string x.name,.slice A2 x.args.length c2] 75)).heap.size=W6.heap.size+1:=by simp
    generalize W6.alloc (.cells #[.int .i64 x.kind,.string x.bT,.string x.name,.slice A2 x.args.length c2] 75)=W7 at hBv hbv hzv⊢;have hd7:=(HD6.out.below hbv).set 3 (.slice (some ⟨W6.heap.size,0,none⟩) 1 1);have hn5:=HD5.out.out.lt;have hX7:iD W7 (fresh (n+1) W7.heap.size) _ x:=iD.stays.wider (iD.stays.later HX.out hbv cZ) (jQ hn5 hbv.size);have hT7:iD W7 (fresh (n+1) W7.heap.size) [.int .i64 3,.string mt,.string mt,.slice (some ⟨W6.heap.size,0,none⟩) 1 1] (.mk 3 mt mt [x]):=Vs hBv hX7 ⟨by omega,hBv.lt⟩;obtain⟨W8,hW8⟩:∃X,X=W7.setCell ⟨n,3,none⟩ (.slice (some ⟨W6.heap.size,0,none⟩) 1 1):=⟨_,rfl⟩;have hT8:iD W8 (fresh (n+1) W7.heap.size) [.int .i64 3,.string mt,.string mt,.slice (some ⟨W6.heap.size,0,none⟩) 1 1] (.mk 3 mt mt [x]):=by
     rw[hW8];exact iD.stays _ _ _ _ _ _ hT7 (fun _ h=>h) ((Keeps.refl _ _).setCell (fun hb=>by have h1:n+1≤n:=hb.1;omega) _)
    have hd8:jl b F A c T W 75 #[.int .i64 0,.string ⟨#[]⟩,.string ⟨#[]⟩,.slice none 0 0] n #[.int .i64 3,.string ⟨#[]⟩,.string ⟨#[]⟩,.slice (some ⟨W6.heap.size,0,none⟩) 1 1] W8 i2 e2 (d+1):=by rw[hW8];exact hd7
    have hs8:W8.heap.size=W7.heap.size:=by rw[hW8];exact size_set _ _ _
    rw[←hW8];have hwa:=jO hd8.start Xz;obtain⟨HWA,uY,HT8⟩:=ak hwa hd8 hT8;clear hwa hd8 hT8;clear hW8 hX7 hT7 hd7 hbv hBv HX HD6 hg hy;go_wp2_with fail;refine HWA.out.mono ?_;rintro en W9 ⟨_,_,i3,e3,rfl,rfl,jB,hl4⟩;have hd9:=uY.out.go hl4;have ara:=hl4.grew.size;have hT9:=iD.stays _ _ _ _ _ _ HT8.out (fun _ h=>h) (hl4.grew.keeps (n:=n+1) (m:=W7.heap.size) (by have:=uY.out.lt;have:=uY.out.le;omega) (by omega));have hst5:St R (bJ (Ty.mk 3 mt mt [x])) T i3 e3:=NI.out.then_ jB;obtain⟨qw,HT9,F5⟩:=ak hd9 hT9 hst5;clear hd9 hT9 hst5;clear hl4 jB;go_wp2_with fail;go_meet;exact⟨.mk 3 mt mt [x],i3,e3,_,_,_,_,qw.out,iD.stays.wider HT9.out (jQ (aJ _) (by omega)),F5.out⟩
   |false=>
    obtain⟨rfl,hst⟩:=HS.out.no hz;have hn8:=one_any hd4.start (hd4.sight.lt);obtain⟨HD4,HST,HN8⟩:=ak hd4 hst hn8;clear hd4 hst hn8;clear XQ HS hz;go_wp2_with fail;refine HN8.out.mono ?_;rintro en W5 ⟨t,j,rfl,hN,hk,htx,hl⟩;have hd5:=HD4.out.go hl;obtain⟨kd,tx⟩:=t;dsimp only at*;go_upto_region 9 with fail
    have hBt:=Box.made W5 182 #[.int .i64 kd,.string tx];have hbt:Below W5.heap.size W5 (W5.alloc (.cells #[.int .i64 kd,.string tx] 182)):=by go_grown
    have pW:(W5.alloc (.cells #[.int .i64 kd,.string tx] 182)).heap.size=W5.heap.size+1:=by simp
    generalize W5.alloc (.cells #[.int .i64 kd,.string tx] 182)=W6 at hBt hbt pW⊢;have hd6:=hd5.below hbt;have hnb:W5.heap.size≠b:=by have:=hl.lt;omega
    have hnn:W5.heap.size≠n:=by have:=hd5.out.lt;omega
    have hid:=fun U=>fU tx U htx
    obtain⟨z1,hz1⟩:∃z,(aX tx)=z:=⟨_,rfl⟩;rw[hz1]at hid;have Z1:=Lib.hid hz1;clear hz1;have hbad:=wU 4 hd6.start;have agw:uS (T.drop i')=.error 4→St R (bJ (Ty.mk 0 mt mt [])) T j (uw 0 4):=fun hp=>HST.out.bad (fun _=>hp) (by decide)
    have hgood:∀x:Ty,(∀L,uS (⟨kd,tx⟩::L)=.ok (x,L))→kd=1→St R (bJ x) T j 0:=fun x hp hk=>HST.out.eq (fun _=>by
     rcases hN with ⟨_,h1,_⟩|⟨_,h1,_⟩
     ·rw[h1];exact hp _
     ·injection h1 with h1 _;rw[h1]at hk;cases hk)
    have hB:=hd6.out;have x0:=hBt.at_ 0 _ rfl;have x1:=hBt.at_ 1 _ rfl;have y0:=hB.at_ 0 _ rfl;have y1:=hB.at_ 1 _ rfl;have y2:=hB.at_ 2 _ rfl;have g0:=hB.free 0;have g1:=hB.free 1;have g2:=hB.free 2;obtain⟨HN,BK,HD6,TI,kH,HBAD,af0,jk⟩:=aC hN htx hd6 hid hBt hbad agw hgood;clear hN htx hd6 hid hBt hbad agw hgood;clear hl hd5 hbt pW hB;cases hq1:(kd==1)with
    |false=>
     have hw:uS (T.drop i')=.error 4:=by
      rcases HN.out with ⟨_,h,_⟩|⟨h,_⟩
      ·rw[h,jW,if_pos (by simpa using hq1)]
      ·rw[h rfl];rfl
     have HW:=ah hw;clear hw;go_wp2_with fail;refine HBAD.out.mono ?_;rintro en W7 ⟨rfl,hl⟩;have HL:=ah hl;clear hl;go_wp2_with fail;go_meet;exact⟨.mk 0 mt mt [],j,_,_,_,_,_,HD6.out.go HL.out,kN _ _ ⟨by decide,by decide⟩ fP fP,af0.out HW.out⟩
    |true=>
     have hk1:kd=1:=by simpa using hq1
     cases hq2:(tx.toList== [105,110,116])with
     |true=>
      have hw:=jk.out (.mk 1 mt mt []) (fun L=>by rw[jW,if_neg (by simp[hk1]),EH,hq2,if_pos rfl]) hk1;have HW:=ah hw;clear hw;go_wp2_with fail;go_meet;exact⟨.mk 1 mt mt [],j,_,_,_,_,_,HD6.out.set 0 _,kN _ _ tq.1 fP fP,HW.out⟩
     |false=>
      cases hq3:(tx.toList== [116,101,120,116])with
      |true=>
       have hw:=jk.out (.mk 2 mt mt []) (fun L=>by rw[jW,if_neg (by simp[hk1]),EH,hq2,if_neg (by simp),EI,hq3,if_pos rfl]) hk1;have HW:=ah hw;clear hw;go_wp2_with fail;go_meet;exact⟨.mk 2 mt mt [],j,_,_,_,_,_,HD6.out.set 0 _,kN _ _ tq.2.1 fP fP,HW.out⟩
      |false=>
       cases z1 with
       |false=>
        have hw:uS (T.drop i')=.error 4:=by
         rcases HN.out with ⟨_,h,_⟩|⟨h,_⟩
         ·rw[h,jW,if_neg (by simp[hk1]),EH,hq2,if_neg (by simp),EI,hq3,if_neg (by simp),if_pos Z1.out]
         ·rw[h rfl];rfl
        have HW:=ah hw;clear hw;go_wp2_with(go_at_call 98;(with_reducible refine(TI.out _).mono ?_);rintro en w' ⟨rfl,rfl⟩);refine HBAD.out.mono ?_;rintro en W7 ⟨rfl,hl⟩;have HL:=ah hl;clear hl;go_wp2_with fail;go_meet;exact⟨.mk 0 mt mt [],j,_,_,_,_,_,HD6.out.go HL.out,kN _ _ ⟨by decide,by decide⟩ fP fP,af0.out HW.out⟩
       |true=>
        have hw:St R (iL RY (aO fJ fun m=>bJ (.mk 4 tx m [])) (bJ (.mk 4 mt tx []))) T j 0:=HST.out.eq (fun _=>by
         rcases HN.out with ⟨_,h,_⟩|⟨_,h,_⟩
         ·rw[h,jW,if_neg (by simp[hk1]),EH,hq2,if_neg (by simp),EI,hq3,if_neg (by simp),if_neg (by rw[Z1.out];simp)]
         ·injection h with h _;rw[h]at hk1;cases hk1)
        have HW:=ah hw;clear hw;go_upto_region 16 with (go_at_call 98;(with_reducible refine(TI.out _).mono ?_);rintro en w' ⟨rfl,rfl⟩)
        obtain⟨W7,hW7⟩:∃X,X=(W6.setCell ⟨n,0,none⟩ (.int .i64 4)).setCell ⟨n,2,none⟩ (.string tx):=⟨_,rfl⟩;have hd7:jl b F A c T W 75 #[.int .i64 0,.string ⟨#[]⟩,.string ⟨#[]⟩,.slice none 0 0] n #[.int .i64 4,.string ⟨#[]⟩,.string tx,.slice none 0 0] W7 j 0 (d+1):=by rw[hW7];exact(HD6.out.set 0 _).set 2 _
        have xX:Box W7 W5.heap.size 182 #[.int .i64 kd,.string tx]:=by rw[hW7];exact(kH.out.far (p:=⟨n,0,none⟩) hnn _).far (p:=⟨n,2,none⟩) hnn _
        rw[←hW7];have uM:=jX hd7.start RY;obtain⟨HD7,zD,acM⟩:=ak hd7 xX uM;clear hd7 xX uM;clear hW7 x0 x1 y0 y1 y2 g0 g1 g2 HD6 kH;go_wp2_with fail;refine acM.out.mono ?_;rintro en W8 ⟨z2,i2,rfl,hz2,hl2⟩;have hd8:=HD7.out.go hl2;have hB8:=hl2.grew.jm zD.out hnb;cases z2 with
        |false=>
         obtain⟨rfl,hst2⟩:=HW.out.no hz2;obtain⟨uY,HS2⟩:=aj hd8 hst2;clear hd8 hst2;clear hl2 hB8;go_wp2_with fail;go_meet;exact⟨.mk 4 mt tx [],_,_,_,_,_,_,uY.out,kN _ _ tq.2.2.2 fP BK.out,HS2.out⟩
        |true=>
         have hst2:=HW.out.yes hz2;have hB:=hd8.out;have x0:=hB8.at_ 0 _ rfl;have x1:=hB8.at_ 1 _ rfl;have y1:=hB.at_ 1 _ rfl;have g1:=hB.free 1;obtain⟨uY,HS2,Gg⟩:=ak hd8 hst2 hB8;clear hd8 hst2 hB8;clear hl2 hB;go_upto_region 18 with fail
         obtain⟨W9,hW9⟩:∃X,X=W8.setCell ⟨n,1,none⟩ (.string tx):=⟨_,rfl⟩;have hd9:jl b F A c T W 75 #[.int .i64 0,.string ⟨#[]⟩,.string ⟨#[]⟩,.slice none 0 0] n #[.int .i64 4,.string tx,.string tx,.slice none 0 0] W9 i2 0 (d+1):=by rw[hW9];exact uY.out.set 1 _
         rw[←hW9];have hid:=ou hd9.start;obtain⟨qw,HI⟩:=aj hd9 hid;clear hd9 hid;clear hW9 x0 x1 y1 g1 uY Gg zD;go_wp2_with fail;refine HI.out.mono ?_;rintro en su ⟨m,v,i3,e3,rfl,⟨rfl,hm⟩,hst3,hl3⟩;have hd10:=qw.out.go hl3;have jB:St R (bJ (Ty.mk 4 tx m [])) T i3 e3:=HS2.out.then_ hst3;have hB:=hd10.out;have y2:=hB.at_ 2 _ rfl;have g2:=hB.free 2;obtain⟨sK,HM,Ia⟩:=ak hd10 hm jB;clear hd10 hm jB;clear hl3 hst3 hB;go_wp2_with fail;go_meet;exact⟨.mk 4 tx m [],_,_,_,_,_,_,sK.out.set 2 _,kN _ _ tq.2.2.2 BK.out HM.out,Ia.out⟩
  ·have oN:(e1==0)=false:=by simp[hz]
   have HZ:=ah hz;clear hz;go_wp2_with fail;go_meet;exact⟨.mk 0 mt mt [],i,e1,_,_,_,_,HD.out,kN _ _ ⟨by decide,by decide⟩ fP fP,HST.out.stuck HZ.out⟩
 case rest=>
  obtain⟨x,i',e',c0,c1,c2,c3,hdi,hX,hst⟩:=hcut;obtain⟨A2,cc,hcs⟩:=iD.form hX;obtain⟨rfl,rfl,rfl,rfl⟩:c0=.int .i64 x.kind∧c1=.string x.bT∧c2=.string x.name∧c3=.slice A2 x.args.length cc:=by simpa using hcs
  clear hcs;have hB:=hdi.sight.box;have hws:=hdi.sight.size;have hle:=hdi.sight.le;have x3:=hB.at_ 3 _ rfl;have g3:=hB.free 3;have hz:d+1-1=d:=by omega
  obtain⟨w9,rfl⟩:∃X,X=wc:=⟨_,rfl⟩;obtain⟨qw,HX,JW⟩:=ak hdi hX hst;clear hdi hX hst;clear hB;go_upto_region 21 with fail
  obtain⟨w10,Rh⟩:∃X,X=w9.setCell ⟨b,3,none⟩ (.int .i64 d):=⟨_,rfl⟩;have hr:=qw.out.res.far (p:=⟨b,3,none⟩) qw.out.ne.2.2 (.int .i64 d);have ho:=qw.out.out.far (p:=⟨b,3,none⟩) qw.out.ne.2.1 (.int .i64 d);have hs:=qw.out.sight.put (e':=e') (d':=d) (i':=i') 3 (.int .i64 d) hle (by simp);have KP:iD w10 (fresh (n+1) w9.heap.size) [.int .i64 x.kind,.string x.bT,.string x.name,.slice A2 x.args.length cc] x:=by
   rw[Rh];exact iD.stays _ _ _ _ _ _ HX.out (fun _ h=>h) ((Keeps.refl _ _).setCell (fun hb=>by have h1:n+1≤b:=hb.1;have:=qw.out.lt;have:=qw.out.le;omega) _)
  rw[←Rh]at hr ho hs⊢;have hsz:w10.heap.size=w9.heap.size:=by rw[Rh];exact size_set _ _ _
  have hlen:=qw.out.le;clear Rh x3 g3 hz HX qw;have r0:=hr.at_ 0 _ rfl;have r1:=hr.at_ 1 _ rfl;have r2:=hr.at_ 2 _ rfl;have r3:=hr.at_ 3 _ rfl;have q0:=hr.free 0;have q1:=hr.free 1;have q2:=hr.free 2;have q3:=hr.free 3;have y0:=ho.at_ 0 _ rfl;have y1:=ho.at_ 1 _ rfl;have y2:=ho.at_ 2 _ rfl;have y3:=ho.at_ 3 _ rfl;obtain⟨HS,HX⟩:=aj hs KP;clear hs KP;clear hr ho;go_wp2_with fail;refine bodyPost_ret (v:=.agg #[.int .i64 x.kind,.string x.bT,.string x.name,.slice A2 x.args.length cc]) (by simp[results,results144,go_sem,r0,r1,r2,r3]) rfl ?_;have hbl:b<W.heap.size:=hbl;refine⟨x,_,i',e',rfl,⟨_,rfl,?_⟩,JW.out,(((HS.out.set (p:=⟨W.heap.size,0,none⟩) (aJ _) hbl _).set (p:=⟨W.heap.size,1,none⟩) (aJ _) hbl _).set (p:=⟨W.heap.size,2,none⟩) (aJ _) hbl _).set (p:=⟨W.heap.size,3,none⟩) (aJ _) hbl _⟩;have hno:¬fresh (n+1) w9.heap.size W.heap.size:=fun h=>by have:=h.1;omega
  refine iD.stays _ _ _ _ _ _ HX.out ?_ (((((Keeps.refl _ _).setCell (fun h=>hno h) _).setCell (fun h=>hno h) _).setCell (fun h=>hno h) _).setCell (fun h=>hno h) _);simp only[size_set];exact jQ (by omega) (by omega)
theorem Gx{b:Nat}{F:aV}{A:Option Addr}{c:Nat}{T:List Token}:∀(f:Nat) (W:World) (i:Nat) (e d:Int),dB b F A c T W W i e d→d+f=40→0≤d→
  Calls prog 144 #[.pointer (some ⟨b,0,none⟩)] W (jP (zA iD) b F A c T W (iM f) i e d):=by
 intro f
 induction f with
 |zero=>exact fun W i e d h hd h0=>KE h hd h0 (fun f' h=>by cases h)
 |succ f ih=>exact fun W i e d h hd h0=>KE h hd h0 (fun f' hf U j k hU=>by cases hf;exact ih U j k (d+1) hU (by omega) (by omega))
section
variable {b:Nat} {F:aV} {A:Option Addr} {c:Nat} {T:List Token} {W W':World} {i:Nat} {e d:Int}
theorem dB.H7(h:dB b F A c T W W' i e d)(hb:b<W.heap.size)(u0 u1 u2 u3 u4:Value):
  dB b F A c T W (((((W'.setCell ⟨W.heap.size,0,none⟩ u0).setCell ⟨W.heap.size,1,none⟩ u1).setCell ⟨W.heap.size,2,none⟩ u2).setCell ⟨W.heap.size,3,none⟩ u3).setCell ⟨W.heap.size,4,none⟩ u4) i e d:=
 ((((h.set (p:=⟨W.heap.size,0,none⟩) (aJ _) hb u0).set (p:=⟨W.heap.size,1,none⟩) (aJ _) hb u1).set (p:=⟨W.heap.size,2,none⟩) (aJ _) hb u2).set (p:=⟨W.heap.size,3,none⟩) (aJ _) hb u3).set (p:=⟨W.heap.size,4,none⟩) (aJ _) hb u4
theorem mY{G:aV}{cs:List Value}{x:Ex}(hX:dN W' G cs x)(hG:∀k,G k→W.heap.size<k∧k<W'.heap.size)(u0 u1 u2 u3 u4:Value):
  dN (((((W'.setCell ⟨W.heap.size,0,none⟩ u0).setCell ⟨W.heap.size,1,none⟩ u1).setCell ⟨W.heap.size,2,none⟩ u2).setCell ⟨W.heap.size,3,none⟩ u3).setCell ⟨W.heap.size,4,none⟩ u4)
   (fresh W.heap.size (((((W'.setCell ⟨W.heap.size,0,none⟩ u0).setCell ⟨W.heap.size,1,none⟩ u1).setCell ⟨W.heap.size,2,none⟩ u2).setCell ⟨W.heap.size,3,none⟩ u3).setCell ⟨W.heap.size,4,none⟩ u4).heap.size) cs x:=by
 have hno:¬G W.heap.size:=fun h=>Nat.lt_irrefl _ (hG _ h).1
 refine dN.stays _ _ _ _ _ _ hX ?_ ((((((Keeps.refl _ _).setCell (fun h=>hno h) _).setCell (fun h=>hno h) _).setCell (fun h=>hno h) _).setCell (fun h=>hno h) _).setCell (fun h=>hno h) _);simp only[size_set];exact fun k hk=>⟨Nat.le_of_lt (hG k hk).1,(hG k hk).2⟩
theorem oQ(w:World){k n:Int}{o s:ByteArray}(hk:I64 k)(hn:I64 n)(ho:okS o)(hs:okS s):dN w none_ [.int .i64 k,.int .i64 n,.string o,.string s,.slice none 0 0] (.mk k n o s []):=mO hk hn ho hs SliceOf.nil_
end
theorem abx{s:ByteArray}(h:jC s=true):s.size≤6∧∀k (hk:k<s.size),48≤s[k].toNat∧s[k].toNat≤57∧spell 0 (s.data.toList.take (k+1))=spell 0 (s.data.toList.take k)*10+(s[k].toNat-48)∧spell 0 (s.data.toList.take k)≤999999:=by
 unfold jC at h;rw[Bool.and_eq_true,decide_eq_true_eq]at h;have hd:=(vH h.2).1;refine⟨h.1,fun k hk=>?_⟩;have hx:=gY s k hk;have h1:=List.all_eq_true.1 hd _ (List.mem_of_getElem? hx);have h2:=kV.1 h1;refine⟨h2.1,h2.2,?_,?_⟩
 ·rw[List.take_add_one,hx,Option.toList_some,D8]
 ·have h3:=Nh (s.data.toList.take k) 0 (List.all_eq_true.2 fun x hm=>List.all_eq_true.1 hd x (List.mem_of_mem_take hm));have h4:10 ^ (s.data.toList.take k).length≤10 ^ 6:=Nat.pow_le_pow_right (by decide) (by rw[List.length_take];omega);have h5:(10:Nat) ^ 6=1000000:=by decide
  omega
theorem aaX{b:Nat}{F:aV}{A:Option Addr}{c:Nat}{T:List Token}{f:Nat}(hx:zC b F A c T f)(W:World)(i:Nat)(d:Int)(h:dB b F A c T W W i 0 d)(hd:d+f=40)(h0:0≤d):
  Calls prog 269 #[.pointer (some ⟨b,0,none⟩)] W (jP (zA dN) b F A c T W (yD (bV f)) i 0 d):=by
 have hst:St (Rs (yD (bV f)) T i 0) (yD (bV f)) T i 0:=St.start _;obtain⟨R,hR⟩:∃R,Rs (yD (bV f)) T i 0=R:=⟨_,rfl⟩;unfold jP;rw[hR]at hst⊢;have hbl:=h.lt;have aa3:=h.len;have hal:=fun U i e s h=>ac7 hx U i e d s h hd h0
 obtain⟨HX,HH,HST,HAL⟩:=au hx h hst hal;clear hx h hst hal;clear hR;go_enter func269,ntmps269;go_upto_region 1 with fail
 have hBr:=Box.made W 81 #[.int .i64 0,.int .i64 0,.string ⟨#[]⟩,.string ⟨#[]⟩,.slice none 0 0];have hbr:Below W.heap.size W (W.alloc (.cells #[.int .i64 0,.int .i64 0,.string ⟨#[]⟩,.string ⟨#[]⟩,.slice none 0 0] 81)):=by go_grown
 have kJ:(W.alloc (.cells #[.int .i64 0,.int .i64 0,.string ⟨#[]⟩,.string ⟨#[]⟩,.slice none 0 0] 81)).heap.size=W.heap.size+1:=by simp
 generalize W.alloc (.cells #[.int .i64 0,.int .i64 0,.string ⟨#[]⟩,.string ⟨#[]⟩,.slice none 0 0] 81)=W1 at hBr hbr kJ⊢;have hl1:=HH.out.below hbr;have hrl:=hBr.lt;have uM:=jX hl1.start Y4;obtain⟨Ed,HB1,XQ⟩:=ak hl1 hBr uM;clear hl1 hBr uM;clear kJ hbr;go_wp2_with fail;refine XQ.out.mono ?_;rintro en W2 ⟨z,i2,rfl,hz,hl2⟩;have oW:=Ed.out.trans hl2;have hb2:=hl2.grew.jm HB1.out (by omega);have hw2:=hl2.size;cases z with
 |true=>
  have hst2:=HST.out.yes hz;have hcx:=HX.out W2 i2 0 d oW.start hd h0;obtain⟨HS2,HL2,HB2,xI⟩:=au hst2 oW hb2 hcx;clear hst2 oW hb2 hcx;clear hl2 XQ HST HB1 hz HAL;go_wp2_with fail;refine xI.out.mono ?_;rintro en W3 ⟨x,v,i3,e3,rfl,⟨cs,rfl,hX⟩,hst3,hl3⟩;have pG:=HL2.out.trans hl3;have hb3:=hl3.grew.jm HB2.out (by omega);have hw3:=hl3.size;have jB:St R (aO (dG Qe) fun _=>bJ x) T i3 e3:=HS2.out.then_ hst3;obtain⟨A3,c3,rfl⟩:=dN.form hX;obtain⟨Ia,BP,HB3,tN⟩:=au jB pG hb3 hX;clear jB pG hb3 hX;clear hl3 hst3 xI HB2 HL2;go_upto_region 3 with fail
  have Di:=Box.made W3 81 #[.int .i64 x.kind,.int .i64 x.n,.string x.bT,.string x.s,.slice A3 x.args.length c3];have ni:Below W3.heap.size W3 (W3.alloc (.cells #[.int .i64 x.kind,.int .i64 x.n,.string x.bT,.string x.s,.slice A3 x.args.length c3] 81)):=by go_grown
  have Iu:(W3.alloc (.cells #[.int .i64 x.kind,.int .i64 x.n,.string x.bT,.string x.s,.slice A3 x.args.length c3] 81)).heap.size=W3.heap.size+1:=by simp
  generalize W3.alloc (.cells #[.int .i64 x.kind,.int .i64 x.n,.string x.bT,.string x.s,.slice A3 x.args.length c3] 81)=W4 at Di ni Iu⊢;have hd4:jl b F A c T W 81 #[.int .i64 0,.int .i64 0,.string ⟨#[]⟩,.string ⟨#[]⟩,.slice none 0 0] W3.heap.size _ W4 i3 e3 d:=⟨BP.out.below ni,HB3.out.later ni HB3.out.lt,Di,hbl,by omega⟩;have GK:=dN.stays.later tN.out ni cZ;have hw4:=ni.size;have hms:=jO hd4.start Qe;obtain⟨HD4,QD,qj⟩:=ak hd4 GK hms;clear hd4 GK hms;clear Di ni Iu HB3 BP tN;go_wp2_with fail;refine qj.out.mono ?_;rintro en W5 ⟨_,_,i5,e5,rfl,rfl,hst5,hl5⟩;have hd5:=HD4.out.go hl5;have hw5:=hl5.size;have KQ:=dN.stays _ _ _ _ _ _ QD.out (fun _ h=>h) (hl5.grew.keeps (n:=W2.heap.size) (m:=W3.heap.size) (by omega) hw4);have kL:St R (bJ x) T i5 e5:=Ia.out.then_ hst5;have jM:=hd5.res;have qm:=hd5.out;have r0:=jM.at_ 0 _ rfl;have r1:=jM.at_ 1 _ rfl;have r2:=jM.at_ 2 _ rfl;have r3:=jM.at_ 3 _ rfl;have r4:=jM.at_ 4 _ rfl;have g0:=jM.free 0;have g1:=jM.free 1;have g2:=jM.free 2;have g3:=jM.free 3;have g4:=jM.free 4;have x0:=qm.at_ 0 _ rfl;have x1:=qm.at_ 1 _ rfl;have x2:=qm.at_ 2 _ rfl;have x3:=qm.at_ 3 _ rfl;have x4:=qm.at_ 4 _ rfl;obtain⟨HD5,Eo,Zu⟩:=ak hd5 KQ kL;clear hd5 KQ kL;clear hl5 hst5 jM qm qj HD4 QD;go_wp2_with fail;refine bodyPost_ret (v:=.agg #[.int .i64 x.kind,.int .i64 x.n,.string x.bT,.string x.s,.slice A3 x.args.length c3]) (by simp[results,results269,go_sem,r0,r1,r2,r3,r4]) rfl ?_;exact⟨x,_,i5,e5,rfl,⟨_,rfl,mY Eo.out (fun k hk=>⟨by have:=hk.1;omega,by have:=hk.2;omega⟩) _ _ _ _ _⟩,Zu.out,HD5.out.sight.H7 hbl _ _ _ _ _⟩
 |false=>
  obtain⟨rfl,hst2⟩:=HST.out.no hz;have uM:=jX oW.start Vt;obtain⟨HS2,HL2,HB2,acM⟩:=au hst2 oW hb2 uM;clear hst2 oW hb2 uM;clear hl2 XQ HST HB1 hz;go_wp2_with fail;refine acM.out.mono ?_;rintro en W3 ⟨z,i3,rfl,hz,hl3⟩;have pG:=HL2.out.trans hl3;have hb3:=hl3.grew.jm HB2.out (by omega);have hw3:=hl3.size;cases z with
  |true=>
   have hst3:=HS2.out.yes hz;have hca:=HAL.out W3 i3 0 Xz pG.start;obtain⟨NI,BP,HB3,Zp⟩:=au hst3 pG hb3 hca;clear hst3 pG hb3 hca;clear hl3 acM HS2 HB2 hz HAL HL2;go_wp2_with fail;refine Zp.out.mono ?_;rintro en W4 ⟨xs,v,i4,e4,rfl,hV,jB,hl4⟩;obtain⟨A4,c4,rfl,-⟩:=SliceOf.form hV;have qh:=BP.out.trans hl4;have hb4:=hl4.grew.jm HB3.out (by omega);have hw4:=hl4.size;have GK:dN W4 _ _ (.mk 6 0 mt mt xs):=mO dS.2.2.2.2.2.2.1 dS.1 fP fP hV;have hst5:St R (bJ (.mk 6 0 mt mt xs)) T i4 e4:=NI.out.then_ jB;have r0:=hb4.at_ 0 _ rfl;have r1:=hb4.at_ 1 _ rfl;have r2:=hb4.at_ 2 _ rfl;have r3:=hb4.at_ 3 _ rfl;have r4:=hb4.at_ 4 _ rfl;have g0:=hb4.free 0;have g1:=hb4.free 1;have g2:=hb4.free 2;have g3:=hb4.free 3;have g4:=hb4.free 4;obtain⟨F5,AZ,tN⟩:=ak hst5 qh GK;clear hst5 qh GK;clear hl4 jB Zp HB3 BP hb4 hV;go_wp2_with fail;refine bodyPost_ret (v:=.agg #[.int .i64 6,.int .i64 0,.string mt,.string mt,.slice A4 xs.length c4]) (by simp[results,results269,go_sem,r0,r1,r2,r3,r4,mt]) rfl ?_;exact⟨.mk 6 0 mt mt xs,_,i4,e4,rfl,⟨_,rfl,mY tN.out (fun k hk=>⟨by have:=hk.1;omega,hk.2⟩) _ _ _ _ _⟩,F5.out,AZ.out.H7 hbl _ _ _ _ _⟩
  |false=>
   obtain⟨rfl,hst3⟩:=HS2.out.no hz;have hn8:=one_any pG.start pG.lt;obtain⟨NI,BP,HB3,HN8⟩:=au hst3 pG hb3 hn8;clear hst3 pG hb3 hn8;clear hl3 acM HS2 HB2 hz HL2;go_wp2_with fail;refine HN8.out.mono ?_;rintro en W4 ⟨t,j,rfl,hN,hk,htx,hl4⟩;have qh:=BP.out.trans hl4;have hb4:=hl4.grew.jm HB3.out (by omega);have hw4:=hl4.size;obtain⟨kd,tx⟩:=t;dsimp only at*;go_upto_region 8 with fail
   have hBt:=Box.made W4 182 #[.int .i64 kd,.string tx];have hbt:Below W4.heap.size W4 (W4.alloc (.cells #[.int .i64 kd,.string tx] 182)):=by go_grown
   have pW:(W4.alloc (.cells #[.int .i64 kd,.string tx] 182)).heap.size=W4.heap.size+1:=by simp
   generalize W4.alloc (.cells #[.int .i64 kd,.string tx] 182)=W5 at hBt hbt pW⊢;have hl5:=qh.below hbt;have hb5:=hb4.later hbt hb4.lt;have hnb:W4.heap.size≠b:=by have:=hl4.lt;omega
   have hnr:W4.heap.size≠W.heap.size:=by omega
   have hw5:=hbt.size;have htl:=hBt.lt;have Io:kd=2→jC tx=true:=fun hk2=>by
    rcases hN with ⟨_,_,h3⟩|⟨_,h1,_⟩
    ·exact hl5.fine _ h3 hk2
    ·injection h1 with h1 _;rw[h1]at hk2;cases hk2
   have hbad:(∀L,AB (bV f) (⟨kd,tx⟩::L)=.error 4)→St R (bJ (Ex.mk 0 0 mt mt [])) T j (uw 0 4):=fun hp=>NI.out.bad (fun _=>by
    rcases hN with ⟨_,h1,_⟩|⟨h1,_,_⟩
    ·rw[h1];exact hp _
    ·rw[h1 rfl];rfl) (by decide)
   have hgood:∀q:Pr Ex,(∀L,AB (bV f) (⟨kd,tx⟩::L)=q L)→kd≠0→St R q T j 0:=fun q hp hk=>NI.out.eq (fun _=>by
    rcases hN with ⟨_,h1,_⟩|⟨_,h1,_⟩
    ·rw[h1];exact hp _
    ·injection h1 with h1 _;exact absurd h1 hk)
   have hid:=fun U=>fU tx U htx
   obtain⟨z1,hz1⟩:∃z,(aX tx)=z:=⟨_,rfl⟩;rw[hz1]at hid;have Z1:=Lib.hid hz1;clear hz1;have x0:=hBt.at_ 0 _ rfl;have x1:=hBt.at_ 1 _ rfl;have r0:=hb5.at_ 0 _ rfl;have r1:=hb5.at_ 1 _ rfl;have r2:=hb5.at_ 2 _ rfl;have r3:=hb5.at_ 3 _ rfl;have r4:=hb5.at_ 4 _ rfl;have g0:=hb5.free 0;have g1:=hb5.free 1;have g2:=hb5.free 2;have g3:=hb5.free 3;have g4:=hb5.free 4;obtain⟨BK,vT,kG,TI,OE,HBAD,jk,OG⟩:=aC htx hl5 hb5 hid hBt hbad hgood Io;clear htx hl5 hb5 hid hBt hbad hgood Io;clear hl4 qh hb4 hbt pW hN NI BP HB3 HN8;cases hq3:(kd==3)with
   |true=>
    have hk3:kd=3:=by simpa using hq3
    have hw:=jk.out (bJ (.mk 2 0 mt tx [])) (fun L=>by rw[jd,if_pos hk3];rfl) (by omega);have HW:=ah hw;clear hw;go_wp2_with fail;refine bodyPost_ret (v:=.agg #[.int .i64 2,.int .i64 0,.string mt,.string tx,.slice none 0 0]) (by simp[results,results269,go_sem,r0,r1,r2,r3,r4,mt]) rfl ?_;exact⟨.mk 2 0 mt tx [],_,j,0,rfl,⟨_,rfl,mY (oQ _ dS.2.2.1 dS.1 fP BK.out) (fun k hk=>hk.elim) _ _ _ _ _⟩,HW.out,vT.out.H7 hbl _ _ _ _ _⟩
   |false=>
    have hk3:kd≠3:=by simpa using hq3
    cases hq2:(kd==2)with
    |true=>
     have hk2:kd=2:=by simpa using hq2
     have hw:=jk.out (bJ (.mk 1 (spell 0 tx.data.toList:Nat) mt mt [])) (fun L=>by rw[jd,if_neg hk3,if_pos hk2];rfl) (by omega);have hnum:=OG.out hk2;have HW:=ah hw;clear hw;obtain⟨h6,hstep⟩:=abx hnum;have alh:=(Vg hnum).2;have akk:tx.data.toList.take tx.size=tx.data.toList:=List.take_of_length_le (by rw[Array.length_toList];exact aJ _);obtain⟨ajR,HLEN,anr⟩:=ak hstep akk alh;clear hstep akk alh;clear hnum;go_wp2_with fail;go_loopg [5,6] tx.size (fun gg s5 s6 wr=>∃kk:Nat,kk≤tx.size∧tx.size-kk≤gg∧s6=.int .i64 kk∧wr=W5∧s5=.int .i64 (spell 0 (tx.data.toList.take kk):Nat))
     case atStart=>exact⟨0,Nat.zero_le _,by omega,rfl,rfl,rfl⟩
     case round=>
      obtain⟨kk,hkk,hg,rfl,rfl,rfl⟩:=hrel
      by_cases hlt:kk<tx.size
      ·have hltz:(kk:Int)<(tx.size:Int):=by omega
       obtain⟨d1,d2,d3,d4⟩:=ajR.out kk hlt;obtain⟨v,hv⟩:∃v,spell 0 (tx.data.toList.take kk)=v:=⟨_,rfl⟩;rw[hv]at d3 d4⊢;have hb:(tx[kk].toNat:Int)<256:=by omega
       have hv1:IntKind.i64.wrap (10*(v:Int))=10*(v:Int):=IntWalk.i64_in _ (by omega);have D3:=ah d3;clear d3;clear hv;go_wp2_with fail;go_roundg (tx.size-(kk+1))
       case measure=>omega
       case rel=>
        refine⟨kk+1,by omega,by omega,by go_num,rfl,?_⟩;rw[D3.out]
        congr 1
        omega
      ·have hltz:¬(kk:Int)<(tx.size:Int):=by omega
       obtain rfl:kk=tx.size:=by omega
       obtain⟨v,hv⟩:∃v,spell 0 (tx.data.toList)=v:=⟨_,rfl⟩;have hw2:=HW.out;have hvl:=anr.out;rw[hv]at hw2 hvl;have hi64:I64 (v:Int):=by unfold I64;omega
       rw[HLEN.out,hv];obtain⟨HW2,ams⟩:=aj hw2 hi64;clear hw2 hi64;clear hv HW;go_wp2_with fail;refine bodyPost_ret (v:=.agg #[.int .i64 1,.int .i64 v,.string mt,.string mt,.slice none 0 0]) (by simp[results,results269,go_sem,r0,r1,r2,r3,r4,mt]) rfl ?_;exact⟨.mk 1 v mt mt [],_,rfl,⟨_,rfl,mY (oQ _ dS.2.1 ams.out fP fP) (fun k hk=>hk.elim) _ _ _ _ _⟩,j,0,HW2.out,vT.out.H7 hbl _ _ _ _ _⟩
    |false=>
     have hk2:kd≠2:=by simpa using hq2
     cases hq1:(kd==1)with
     |false=>
      have hk1:kd≠1:=by simpa using hq1
      have hqz:(kd !=1)=true:=by simp[hk1]
      have hw:=HBAD.out (fun L=>by rw[jd,if_neg hk3,if_neg hk2,if_neg (fun h=>hk1 h.1)]);have hbd:=wU 4 vT.out.start;obtain⟨HW,XB⟩:=aj hw hbd;clear hw hbd;go_wp2_with fail;refine XB.out.mono ?_;rintro en W6 ⟨rfl,hl⟩;have nY:=vT.out.trans hl;have hb6:=hl.grew.jm kG.out (by omega);clear r0 r1 r2 r3 r4 g0 g1 g2 g3 g4;have r0:=hb6.at_ 0 _ rfl;have r1:=hb6.at_ 1 _ rfl;have r2:=hb6.at_ 2 _ rfl;have r3:=hb6.at_ 3 _ rfl;have r4:=hb6.at_ 4 _ rfl;have g0:=hb6.free 0;have g1:=hb6.free 1;have g2:=hb6.free 2;have g3:=hb6.free 3;have g4:=hb6.free 4;have Jt:=ah nY;clear nY;clear hl hb6;go_wp2_with fail;refine bodyPost_ret (v:=.agg #[.int .i64 0,.int .i64 0,.string mt,.string mt,.slice none 0 0]) (by simp[results,results269,go_sem,r0,r1,r2,r3,r4,mt]) rfl ?_;exact⟨.mk 0 0 mt mt [],_,j,_,rfl,⟨_,rfl,mY (oQ _ dS.1 dS.1 fP fP) (fun k hk=>hk.elim) _ _ _ _ _⟩,HW.out,Jt.out.H7 hbl _ _ _ _ _⟩
     |true=>
      have hk1:kd=1:=by simpa using hq1
      have hqz:(kd !=1)=false:=by simp[hk1]
      cases z1 with
      |false=>
       have hw:=HBAD.out (fun L=>by rw[jd,if_neg hk3,if_neg hk2,if_neg (by rw[Z1.out];exact fun h=>by cases h.2)]);have hbd:=wU 4 vT.out.start;obtain⟨HW,XB⟩:=aj hw hbd;clear hw hbd;go_wp2_with(go_at_call 98;(with_reducible refine(TI.out _).mono ?_);rintro en w' ⟨rfl,rfl⟩);refine XB.out.mono ?_;rintro en W6 ⟨rfl,hl⟩;have nY:=vT.out.trans hl;have hb6:=hl.grew.jm kG.out (by omega);clear r0 r1 r2 r3 r4 g0 g1 g2 g3 g4;have r0:=hb6.at_ 0 _ rfl;have r1:=hb6.at_ 1 _ rfl;have r2:=hb6.at_ 2 _ rfl;have r3:=hb6.at_ 3 _ rfl;have r4:=hb6.at_ 4 _ rfl;have g0:=hb6.free 0;have g1:=hb6.free 1;have g2:=hb6.free 2;have g3:=hb6.free 3;have g4:=hb6.free 4;have Jt:=ah nY;clear nY;clear hl hb6;go_wp2_with fail;refine bodyPost_ret (v:=.agg #[.int .i64 0,.int .i64 0,.string mt,.string mt,.slice none 0 0]) (by simp[results,results269,go_sem,r0,r1,r2,r3,r4,mt]) rfl ?_;exact⟨.mk 0 0 mt mt [],_,j,_,rfl,⟨_,rfl,mY (oQ _ dS.1 dS.1 fP fP) (fun k hk=>hk.elim) _ _ _ _ _⟩,HW.out,Jt.out.H7 hbl _ _ _ _ _⟩
      |true=>
       have hw:St R (sW (bV f) tx) T j 0:=jk.out (sW (bV f) tx) (fun L=>by rw[jd,if_neg hk3,if_neg hk2,if_pos ⟨hk1,Z1.out⟩]) (by omega);have HW:=ah hw;clear hw;go_upto_region 21 with (go_at_call 98;(with_reducible refine(TI.out _).mono ?_);rintro en w' ⟨rfl,rfl⟩)
       have Di:=Box.made W5 81 #[.int .i64 4,.int .i64 0,.string ⟨#[]⟩,.string tx,.slice none 0 0];have ni:Below W5.heap.size W5 (W5.alloc (.cells #[.int .i64 4,.int .i64 0,.string ⟨#[]⟩,.string tx,.slice none 0 0] 81)):=by go_grown
       have Iu:(W5.alloc (.cells #[.int .i64 4,.int .i64 0,.string ⟨#[]⟩,.string tx,.slice none 0 0] 81)).heap.size=W5.heap.size+1:=by simp
       generalize W5.alloc (.cells #[.int .i64 4,.int .i64 0,.string ⟨#[]⟩,.string tx,.slice none 0 0] 81)=W6 at Di ni Iu⊢;obtain⟨N,hN⟩:∃n,W5.heap.size=n:=⟨_,rfl⟩;have hd6:jl b F A c T W 81 #[.int .i64 0,.int .i64 0,.string ⟨#[]⟩,.string ⟨#[]⟩,.slice none 0 0] W5.heap.size #[.int .i64 4,.int .i64 0,.string ⟨#[]⟩,.string tx,.slice none 0 0] W6 j 0 d:=⟨vT.out.below ni,kG.out.later ni kG.out.lt,Di,hbl,by omega⟩;have ht6:=OE.out.later ni OE.out.lt;have htn:W4.heap.size≠N:=by omega
       have hNl:=Di.lt;rw[hN]at hd6 hNl⊢;have uM:=jX hd6.start RY;clear x0 x1 r0 r1 r2 r3 r4 g0 g1 g2 g3 g4 Di ni Iu hN vT kG OE HBAD jk OG;obtain⟨HD6,HT6,am5⟩:=ak hd6 ht6 uM;clear hd6 ht6 uM;go_wp2_with fail;refine am5.out.mono ?_;rintro en W7 ⟨z,i7,rfl,hz,hl⟩;have hd7:=HD6.out.go hl;have ht7:=hl.grew.jm HT6.out hnb;cases z with
       |true=>
        have uN:=HW.out.yes hz;have hb:=hd7.out;have x0:=ht7.at_ 0 _ rfl;have x1:=ht7.at_ 1 _ rfl;have y2:=hb.at_ 2 _ rfl;have g2:=hb.free 2;obtain⟨HD7,XR⟩:=aj hd7 uN;clear hd7 uN;clear hl hz hb ht7;go_upto_region 23 with fail
        obtain⟨W8,hW8⟩:∃X,X=W7.setCell ⟨N,2,none⟩ (.string tx):=⟨_,rfl⟩;have hd8:jl b F A c T W 81 #[.int .i64 0,.int .i64 0,.string ⟨#[]⟩,.string ⟨#[]⟩,.slice none 0 0] N #[.int .i64 4,.int .i64 0,.string tx,.string tx,.slice none 0 0] W8 i7 0 d:=by rw[hW8];exact HD7.out.set 2 _
        rw[←hW8];have hI:=ou hd8.start;obtain⟨uY,HI⟩:=aj hd8 hI;clear hd8 hI;clear hW8 x0 x1 y2 g2 HD7;go_wp2_with fail;refine HI.out.mono ?_;rintro en W9 ⟨m,v,i9,e9,rfl,⟨rfl,hm⟩,rU,hl⟩;have hd9:=uY.out.go hl;have xk:St R (aO (dG Y4) fun _=>uP (bV f) tx m) T i9 e9:=XR.out.then_ rU;have hb:=hd9.out;have y3:=hb.at_ 3 _ rfl;have g3:=hb.free 3;obtain⟨qw,HM,acO⟩:=ak hd9 hm xk;clear hd9 hm xk;clear hl rU hb;go_upto_region 24 with fail
        obtain⟨su,ahU⟩:∃X,X=W9.setCell ⟨N,3,none⟩ (.string m):=⟨_,rfl⟩;have hd10:jl b F A c T W 81 #[.int .i64 0,.int .i64 0,.string ⟨#[]⟩,.string ⟨#[]⟩,.slice none 0 0] N #[.int .i64 4,.int .i64 0,.string tx,.string m,.slice none 0 0] su i9 e9 d:=by rw[ahU];exact qw.out.set 3 _
        rw[←ahU];have hwt:=jO hd10.start Y4;obtain⟨sK,HWT⟩:=aj hd10 hwt;clear hd10 hwt;clear ahU y3 g3 qw;go_wp2_with fail;refine HWT.out.mono ?_;rintro en W11 ⟨_,_,i11,e11,rfl,rfl,Af,hl⟩;have hd11:=sK.out.go hl;have hst12:St R (uP (bV f) tx m) T i11 e11:=acO.out.then_ Af;obtain⟨zk,CP⟩:=aj hd11 hst12;clear hd11 hst12;clear hl Af;have uM:=jX zk.out.start Qe;have ajL:=ah uM;clear uM;go_wp2_with fail;refine ajL.out.mono ?_;rintro en J4 ⟨z,i12,rfl,hz,hl⟩;have pz:=zk.out.go hl;cases z with
        |true=>
         have hst:=CP.out.yes hz;have hr:=pz.res;have ho:=pz.out;have r0:=hr.at_ 0 _ rfl;have r1:=hr.at_ 1 _ rfl;have r2:=hr.at_ 2 _ rfl;have r3:=hr.at_ 3 _ rfl;have r4:=hr.at_ 4 _ rfl;have g0:=hr.free 0;have g1:=hr.free 1;have g2:=hr.free 2;have g3:=hr.free 3;have g4:=hr.free 4;have y0:=ho.at_ 0 _ rfl;have y1:=ho.at_ 1 _ rfl;have y2:=ho.at_ 2 _ rfl;have y3:=ho.at_ 3 _ rfl;have y4:=ho.at_ 4 _ rfl;obtain⟨rJ,acP⟩:=aj pz hst;clear pz hst;clear hr ho hl hz;go_wp2_with fail;refine bodyPost_ret (v:=.agg #[.int .i64 4,.int .i64 0,.string tx,.string m,.slice none 0 0]) (by simp[results,results269,go_sem,r0,r1,r2,r3,r4]) rfl ?_;exact⟨.mk 4 0 tx m [],_,i12,_,rfl,⟨_,rfl,mY (oQ _ dS.2.2.2.2.1 dS.1 BK.out HM.out) (fun k hk=>hk.elim) _ _ _ _ _⟩,acP.out,rJ.out.sight.H7 hbl _ _ _ _ _⟩
        |false=>
         obtain⟨rfl,hst⟩:=CP.out.no hz;have hca:=HAL.out J4 i12 e11 Qe pz.start;obtain⟨rJ,acP,ajn⟩:=ak pz hst hca;clear pz hst hca;clear hl hz;go_wp2_with fail;refine ajn.out.mono ?_;rintro en vg ⟨xs,v,i13,e13,rfl,hV,hst2,hl⟩;obtain⟨A13,c13,rfl,-⟩:=SliceOf.form hV;have rQ:=rJ.out.go hl;have aps:=hl.size;have hwa:=rJ.out.sight.size;have akv:dN vg _ _ (.mk 4 0 tx m xs):=mO dS.2.2.2.2.1 dS.1 BK.out HM.out hV;have hst3:St R (bJ (.mk 4 0 tx m xs)) T i13 e13:=acP.out.then_ hst2;have hb:=rQ.out;have aq0:=rJ.out.out.lt;have y0:=hb.at_ 0 _ rfl;have y1:=hb.at_ 1 _ rfl;have y2:=hb.at_ 2 _ rfl;have y3:=hb.at_ 3 _ rfl;have y4:=hb.at_ 4 _ rfl;have q4:=hb.free 4;obtain⟨qc,QC,ajO⟩:=ak rQ akv hst3;clear rQ akv hst3;clear hl hst2 hV hb;go_upto_region 29 with fail
         obtain⟨W14,hWW⟩:∃X,X=vg.setCell ⟨N,4,none⟩ (.slice A13 xs.length c13):=⟨_,rfl⟩;have hd:jl b F A c T W 81 #[.int .i64 0,.int .i64 0,.string ⟨#[]⟩,.string ⟨#[]⟩,.slice none 0 0] N #[.int .i64 4,.int .i64 0,.string tx,.string m,.slice A13 xs.length c13] W14 i13 e13 d:=by rw[hWW];exact qc.out.set 4 _
         have hX:dN W14 (fresh J4.heap.size vg.heap.size) [.int .i64 4,.int .i64 0,.string tx,.string m,.slice A13 xs.length c13] (.mk 4 0 tx m xs):=by
          rw[hWW];exact dN.stays _ _ _ _ _ _ QC.out (fun _ h=>h) ((Keeps.refl _ _).setCell (fun h=>by have h1:J4.heap.size≤N:=h.1;omega) _)
         have hsw:W14.heap.size=vg.heap.size:=by rw[hWW];exact size_set _ _ _
         have hlen:=qc.out.le;rw[←hWW];have hr:=hd.res;have ho:=hd.out;clear y0 y1 y2 y3 y4 q4 hWW;have r0:=hr.at_ 0 _ rfl;have r1:=hr.at_ 1 _ rfl;have r2:=hr.at_ 2 _ rfl;have r3:=hr.at_ 3 _ rfl;have r4:=hr.at_ 4 _ rfl;have g0:=hr.free 0;have g1:=hr.free 1;have g2:=hr.free 2;have g3:=hr.free 3;have g4:=hr.free 4;have y0:=ho.at_ 0 _ rfl;have y1:=ho.at_ 1 _ rfl;have y2:=ho.at_ 2 _ rfl;have y3:=ho.at_ 3 _ rfl;have y4:=ho.at_ 4 _ rfl;obtain⟨HDF,HXF⟩:=aj hd hX;clear hd hX;clear hr ho;go_wp2_with fail;refine bodyPost_ret (v:=.agg #[.int .i64 4,.int .i64 0,.string tx,.string m,.slice A13 xs.length c13]) (by simp[results,results269,go_sem,r0,r1,r2,r3,r4]) rfl ?_;exact⟨.mk 4 0 tx m xs,_,i13,e13,rfl,⟨_,rfl,mY HXF.out (fun k hk=>⟨by have:=hk.1;omega,by have:=hk.2;omega⟩) _ _ _ _ _⟩,ajO.out,HDF.out.sight.H7 hbl _ _ _ _ _⟩
       |false=>
        obtain⟨rfl,uN⟩:=HW.out.no hz;have uM:=jX hd7.start Y4;obtain⟨HD7,XR,HT7,am6⟩:=au hd7 uN ht7 uM;clear hd7 uN ht7 uM;clear hl hz;go_wp2_with fail;refine am6.out.mono ?_;rintro en W8 ⟨z,i8,rfl,hz,hl⟩;have hd8:=HD7.out.go hl;have ht8:=hl.grew.jm HT7.out hnb;cases z with
        |false=>
         obtain⟨rfl,lN⟩:=XR.out.no hz;have hr:=hd8.res;have x0:=ht8.at_ 0 _ rfl;have x1:=ht8.at_ 1 _ rfl;have r0:=hr.at_ 0 _ rfl;have r1:=hr.at_ 1 _ rfl;have r2:=hr.at_ 2 _ rfl;have r3:=hr.at_ 3 _ rfl;have r4:=hr.at_ 4 _ rfl;have g0:=hr.free 0;have g1:=hr.free 1;have g2:=hr.free 2;have g3:=hr.free 3;have g4:=hr.free 4;obtain⟨uY,XT⟩:=aj hd8 lN;clear hd8 lN;clear hl hz hr ht8;go_wp2_with fail;refine bodyPost_ret (v:=.agg #[.int .i64 3,.int .i64 0,.string mt,.string tx,.slice none 0 0]) (by simp[results,results269,go_sem,r0,r1,r2,r3,r4,mt]) rfl ?_;exact⟨.mk 3 0 mt tx [],_,_,_,rfl,⟨_,rfl,mY (oQ _ dS.2.2.2.1 dS.1 fP BK.out) (fun k hk=>hk.elim) _ _ _ _ _⟩,XT.out,uY.out.sight.H7 hbl _ _ _ _ _⟩
        |true=>
         have lN:St R (uP (bV f) mt tx) T i8 0:=XR.out.yes hz;obtain⟨uY,JV⟩:=aj hd8 lN;clear hd8 lN;clear hl hz ht8;have uM:=jX uY.out.start Qe;have am7:=ah uM;clear uM;go_wp2_with fail;refine am7.out.mono ?_;rintro en W9 ⟨z,i9,rfl,hz,hl⟩;have hd9:=uY.out.go hl;cases z with
         |true=>
          have hst:=JV.out.yes hz;have hr:=hd9.res;have ho:=hd9.out;have r0:=hr.at_ 0 _ rfl;have r1:=hr.at_ 1 _ rfl;have r2:=hr.at_ 2 _ rfl;have r3:=hr.at_ 3 _ rfl;have r4:=hr.at_ 4 _ rfl;have g0:=hr.free 0;have g1:=hr.free 1;have g2:=hr.free 2;have g3:=hr.free 3;have g4:=hr.free 4;have y0:=ho.at_ 0 _ rfl;have y1:=ho.at_ 1 _ rfl;have y2:=ho.at_ 2 _ rfl;have y3:=ho.at_ 3 _ rfl;have y4:=ho.at_ 4 _ rfl;obtain⟨qw,JW⟩:=aj hd9 hst;clear hd9 hst;clear hr ho hl hz;go_wp2_with fail;refine bodyPost_ret (v:=.agg #[.int .i64 4,.int .i64 0,.string mt,.string tx,.slice none 0 0]) (by simp[results,results269,go_sem,r0,r1,r2,r3,r4,mt]) rfl ?_;exact⟨.mk 4 0 mt tx [],_,i9,_,rfl,⟨_,rfl,mY (oQ _ dS.2.2.2.2.1 dS.1 fP BK.out) (fun k hk=>hk.elim) _ _ _ _ _⟩,JW.out,qw.out.sight.H7 hbl _ _ _ _ _⟩
         |false=>
          obtain⟨rfl,hst⟩:=JV.out.no hz;have hca:=HAL.out W9 i9 0 Qe hd9.start;obtain⟨qw,JW,al6⟩:=ak hd9 hst hca;clear hd9 hst hca;clear hl hz;go_wp2_with fail;refine al6.out.mono ?_;rintro en su ⟨xs,v,i10,e10,rfl,hV,hst2,hl⟩;obtain⟨A10,c10,rfl,-⟩:=SliceOf.form hV;have hd10:=qw.out.go hl;have apr:=hl.size;have hwa:=qw.out.sight.size;have KP:dN su _ _ (.mk 4 0 mt tx xs):=mO dS.2.2.2.2.1 dS.1 fP BK.out hV;have hst3:St R (bJ (.mk 4 0 mt tx xs)) T i10 e10:=JW.out.then_ hst2;have hb:=hd10.out;have aqZ:=qw.out.out.lt;have y0:=hb.at_ 0 _ rfl;have y1:=hb.at_ 1 _ rfl;have y2:=hb.at_ 2 _ rfl;have y3:=hb.at_ 3 _ rfl;have y4:=hb.at_ 4 _ rfl;have q4:=hb.free 4;obtain⟨sK,vV,acO⟩:=ak hd10 KP hst3;clear hd10 KP hst3;clear hl hst2 hV hb;go_upto_region 29 with fail
          obtain⟨W11,hWW⟩:∃X,X=su.setCell ⟨N,4,none⟩ (.slice A10 xs.length c10):=⟨_,rfl⟩;have hd:jl b F A c T W 81 #[.int .i64 0,.int .i64 0,.string ⟨#[]⟩,.string ⟨#[]⟩,.slice none 0 0] N #[.int .i64 4,.int .i64 0,.string mt,.string tx,.slice A10 xs.length c10] W11 i10 e10 d:=by rw[hWW];exact sK.out.set 4 _
          have hX:dN W11 (fresh W9.heap.size su.heap.size) [.int .i64 4,.int .i64 0,.string mt,.string tx,.slice A10 xs.length c10] (.mk 4 0 mt tx xs):=by
           rw[hWW];exact dN.stays _ _ _ _ _ _ vV.out (fun _ h=>h) ((Keeps.refl _ _).setCell (fun h=>by have h1:W9.heap.size≤N:=h.1;omega) _)
          have hsw:W11.heap.size=su.heap.size:=by rw[hWW];exact size_set _ _ _
          have hlen:=sK.out.le;rw[←hWW];have hr:=hd.res;have ho:=hd.out;clear y0 y1 y2 y3 y4 q4 hWW;have r0:=hr.at_ 0 _ rfl;have r1:=hr.at_ 1 _ rfl;have r2:=hr.at_ 2 _ rfl;have r3:=hr.at_ 3 _ rfl;have r4:=hr.at_ 4 _ rfl;have g0:=hr.free 0;have g1:=hr.free 1;have g2:=hr.free 2;have g3:=hr.free 3;have g4:=hr.free 4;have y0:=ho.at_ 0 _ rfl;have y1:=ho.at_ 1 _ rfl;have y2:=ho.at_ 2 _ rfl;have y3:=ho.at_ 3 _ rfl;have y4:=ho.at_ 4 _ rfl;obtain⟨HDF,HXF⟩:=aj hd hX;clear hd hX;clear hr ho;go_wp2_with fail;refine bodyPost_ret (v:=.agg #[.int .i64 4,.int .i64 0,.string mt,.string tx,.slice A10 xs.length c10]) (by simp[results,results269,go_sem,r0,r1,r2,r3,r4,mt]) rfl ?_;exact⟨.mk 4 0 mt tx xs,_,i10,e10,rfl,⟨_,rfl,mY HXF.out (fun k hk=>⟨by have:=hk.1;omega,by have:=hk.2;omega⟩) _ _ _ _ _⟩,acO.out,HDF.out.sight.H7 hbl _ _ _ _ _⟩
section
variable {β:Type} {R:Except Int (Ex×List Token)} {T:List Token} {i i':Nat} {e:Int} {ex:Pr Ex} {m:Nat} {x:Ex}
theorem VK(h:St R (pR ex m x) T i e)(hs:Seen Vt T i e false i'):i'=i∧St R (bJ x) T i e:=by
 rcases hs with ⟨_,rfl,hn⟩|⟨h,_⟩
 ·exact⟨rfl,h.eq (fun h0=>TY (hn h0))⟩
 ·cases h
theorem abR(h:St R (pR ex m x) T i e)(hs:Seen Vt T i e true i')(hm:left T i e≤m+1):∃m',m=m'+1∧St R (aO ex fun y=>aO (dG Xz) fun _=>pR ex m' (QF x y)) T i' 0:=by
 rcases hs with ⟨h1,_⟩|⟨_,rfl,hn⟩
 ·cases h1
 ·have h1:=take_len hn;rw[left_ok]at hm;obtain⟨m',rfl⟩:∃m',m=m'+1:=⟨m-1,by omega⟩;exact⟨m',rfl,h.eq (fun _=>dW hn)⟩
theorem SB(h:St R (lT ex m x) T i e)(hs:Seen IQ T i e false i'):i'=i∧St R (bJ x) T i e:=by
 rcases hs with ⟨_,rfl,hn⟩|⟨h,_⟩
 ·exact⟨rfl,h.eq (fun h0=>Qo (hn h0))⟩
 ·cases h
theorem Zg(h:St R (lT ex m x) T i e)(hs:Seen IQ T i e true i')(hm:left T i e≤m+1):∃m',m=m'+1∧St R (aO ex fun y=>lT ex m' (sumOf x y)) T i' 0:=by
 rcases hs with ⟨h1,_⟩|⟨_,rfl,hn⟩
 ·cases h1
 ·have h1:=take_len hn;rw[left_ok]at hm;obtain⟨m',rfl⟩:∃m',m=m'+1:=⟨m-1,by omega⟩;exact⟨m',rfl,h.eq (fun _=>dW hn)⟩
end
theorem jl.alloc{b:Nat}{F:aV}{A:Option Addr}{c:Nat}{T:List Token}{W W':World}{i:Nat}{e d:Int}{rt:TypeId}{rc cs:Array Value}{n:Nat}(h:jl b F A c T W rt rc n cs W' i e d)(o:Obj):jl b F A c T W rt rc n cs (W'.alloc o) i e d:=h.below ((Below.refl _ _).alloc (aJ _) o)
theorem Fit.grew{W w w':World}{q b:Nat}{G:aV}(h:Fit W q w G)(hg:Grew b w w' (some b)):Fit W q w' G:=fun k hk=>⟨(h k hk).1,(h k hk).2.1,Nat.lt_of_lt_of_le (h k hk).2.2 hg.size⟩
theorem ZI{W w w':World}{q b:Nat}{G:aV}{cs:List Value}{x:Ex}(hX:dN w G cs x)(h:Fit W q w G)(hb:b<W.heap.size)(hg:Grew b w w' (some b)):dN w' G cs x:=
 dN.stays _ _ _ _ _ _ hX (fun _ h=>h) (dY fun k hk=>hg.block k (h k hk).2.2 (fun e=>by injection e with e;have:=(h k hk).1;omega))
theorem Pm{b:Nat}{F:aV}{A:Option Addr}{c:Nat}{T:List Token}{f:Nat}(hx:zC b F A c T f)(W:World)(i:Nat)(d:Int)(h:dB b F A c T W W i 0 d)(hd:d+f=40)(h0:0≤d):
  Calls prog 250 #[.pointer (some ⟨b,0,none⟩)] W (jP (zA dN) b F A c T W (lq (bV f)) i 0 d):=by
 have hst:St (Rs (lq (bV f)) T i 0) (lq (bV f)) T i 0:=St.start _;obtain⟨R,hR⟩:∃R,Rs (lq (bV f)) T i 0=R:=⟨_,rfl⟩;unfold jP;rw[hR]at hst⊢;have hbl:=h.lt;have aa3:=h.len;have hat:=fun U (hU:Below W.heap.size W U)=>aaX hx U i d (h.below hU).start hd h0
 obtain⟨HX,HH,HST,HAT⟩:=au hx h hst hat;clear hx h hst hat;clear hR;go_enter func250,ntmps250;go_upto_region 1 with fail
 have hBr:=Box.made W 81 #[.int .i64 0,.int .i64 0,.string ⟨#[]⟩,.string ⟨#[]⟩,.slice none 0 0];have hbr:Below W.heap.size W (W.alloc (.cells #[.int .i64 0,.int .i64 0,.string ⟨#[]⟩,.string ⟨#[]⟩,.slice none 0 0] 81)):=by go_grown
 have kJ:(W.alloc (.cells #[.int .i64 0,.int .i64 0,.string ⟨#[]⟩,.string ⟨#[]⟩,.slice none 0 0] 81)).heap.size=W.heap.size+1:=by simp
 generalize W.alloc (.cells #[.int .i64 0,.int .i64 0,.string ⟨#[]⟩,.string ⟨#[]⟩,.slice none 0 0] 81)=W1 at hBr hbr kJ⊢;have hl1:=HH.out.below hbr;have hrl:=hBr.lt;obtain⟨Ed,HB1,Hbr⟩:=ak hl1 hBr hbr;clear hl1 hBr hbr;clear kJ;go_wp2_with fail;refine(HAT.out _ Hbr.out).mono ?_;rintro en W2 ⟨x,v,i2,e2,rfl,⟨cs,rfl,hX⟩,hst2,hl2⟩;have hst3:St R (pR (bV f) (T.drop i2).length x) T i2 e2:=(HST.out.then_ hst2).eq (fun _=>rfl);have oW:=Ed.out.trans hl2;have hb2:=hl2.grew.jm HB1.out (by omega);have hw2:=hl2.size;obtain⟨A2,c2,rfl⟩:=dN.form hX;obtain⟨ajQ,HL2,HB2,tN⟩:=au hst3 oW hb2 hX;clear hst3 oW hb2 hX;clear hl2 hst2 HB1 Ed HAT HST;go_wp2_with fail;have hBx:=Box.made W2 81 #[.int .i64 x.kind,.int .i64 x.n,.string x.bT,.string x.s,.slice A2 x.args.length c2];have hbx:Below W2.heap.size W2 (W2.alloc (.cells #[.int .i64 x.kind,.int .i64 x.n,.string x.bT,.string x.s,.slice A2 x.args.length c2] 81)):=by go_grown
 have hzx:(W2.alloc (.cells #[.int .i64 x.kind,.int .i64 x.n,.string x.bT,.string x.s,.slice A2 x.args.length c2] 81)).heap.size=W2.heap.size+1:=by simp
 generalize W2.alloc (.cells #[.int .i64 x.kind,.int .i64 x.n,.string x.bT,.string x.s,.slice A2 x.args.length c2] 81)=W3 at hBx hbx hzx⊢;have hq:W.heap.size<W2.heap.size:=by omega
 have hd3:jl b F A c T W 81 _ W2.heap.size _ W3 i2 e2 d:=⟨HL2.out.below hbx,HB2.out.later hbx HB2.out.lt,hBx,hbl,hq⟩;have hX3:=dN.stays.later tN.out hbx cZ;have hw3:=hbx.size;obtain⟨q,hqe⟩:∃q,W2.heap.size=q:=⟨_,rfl⟩;have hfit:Fit W q W3 (fresh W1.heap.size W2.heap.size):=fun k hk=>⟨by have:=hk.1;omega,by have:=hk.2;omega,by have:=hk.2;omega⟩
 rw[hqe]at hd3 hq⊢;obtain⟨HD3,wJ,TG⟩:=ak hd3 hX3 hfit;clear hd3 hX3 hfit;clear hbx hzx hBx HB2 HL2 tN hqe;go_loopg [] (left T i2 e2) (fun gg wr=>∃(m c3:Nat) (A3:Option Addr) (x:Ex) (j:Nat) (e3:Int) (G:aV),left T j e3≤gg∧left T j e3≤m+1∧Aside (St R (pR (bV f) m x) T j e3)∧
  Aside (jl b F A c T W 81 #[.int .i64 0,.int .i64 0,.string ⟨#[]⟩,.string ⟨#[]⟩,.slice none 0 0] q #[.int .i64 x.kind,.int .i64 x.n,.string x.bT,.string x.s,.slice A3 x.args.length c3] wr j e3 d)∧
  Aside (dN wr G [.int .i64 x.kind,.int .i64 x.n,.string x.bT,.string x.s,.slice A3 x.args.length c3] x)∧Aside (Fit W q wr G))
 case atStart=>exact⟨_,c2,A2,x,i2,e2,_,aJ _,Bo,aside ajQ.out,aside HD3.out,aside wJ.out,aside TG.out⟩
 case round=>
  clear HD3 wJ TG ajQ;obtain⟨m,c3,A3,x,j,e3,G,hg,hm,jB,hd4,GK,Jh⟩:=hrel;obtain⟨W4,rfl⟩:∃W,W=wr:=⟨_,rfl⟩;have htk:=jX hd4.out.start Vt;have qR:=ah htk;clear htk;go_wp2_with fail;refine qR.out.mono ?_;rintro en W5 ⟨z,j5,rfl,hz,hl5⟩;have hd5:=hd4.out.go hl5;have KQ:=ZI GK.out Jh.out hbl hl5.grew;have ZM:=Jh.out.grew hl5.grew;cases z with
  |false=>
   obtain⟨rfl,hst5⟩:=VK jB.out hz;have jM:=hd5.res;have qm:=hd5.out;have r0:=jM.at_ 0 _ rfl;have r1:=jM.at_ 1 _ rfl;have r2:=jM.at_ 2 _ rfl;have r3:=jM.at_ 3 _ rfl;have r4:=jM.at_ 4 _ rfl;have g0:=jM.free 0;have g1:=jM.free 1;have g2:=jM.free 2;have g3:=jM.free 3;have g4:=jM.free 4;have x0:=qm.at_ 0 _ rfl;have x1:=qm.at_ 1 _ rfl;have x2:=qm.at_ 2 _ rfl;have x3:=qm.at_ 3 _ rfl;have x4:=qm.at_ 4 _ rfl;obtain⟨QB,HD5,tN,yS⟩:=au hst5 hd5 KQ ZM;clear hst5 hd5 KQ ZM;clear hl5 jM qm hz qR GK hd4 Jh jB;go_wp2_with fail;refine bodyPost_ret (v:=.agg #[.int .i64 x.kind,.int .i64 x.n,.string x.bT,.string x.s,.slice A3 x.args.length c3]) (by simp[results,results250,go_sem,r0,r1,r2,r3,r4]) rfl ?_;have k1:zA dN _ _ (.agg #[.int .i64 x.kind,.int .i64 x.n,.string x.bT,.string x.s,.slice A3 x.args.length c3]) x:=⟨_,rfl,mY tN.out (fun k hk=>⟨(yS.out k hk).1,(yS.out k hk).2.2⟩) (.int .i64 x.kind) (.int .i64 x.n) (.string x.bT) (.string x.s) (.slice A3 x.args.length c3)⟩;have k2:=HD5.out.sight.H7 hbl (.int .i64 x.kind) (.int .i64 x.n) (.string x.bT) (.string x.s) (.slice A3 x.args.length c3);first
    |exact⟨x,_,rfl,k1,j5,e3,QB.out,k2⟩
    |exact⟨x,_,j5,e3,rfl,k1,QB.out,k2⟩
  |true=>
   obtain⟨m',rfl,hst5⟩:=abR jB.out hz hm;obtain⟨rfl,hlt⟩:=GY hz;have hcx:=HX.out W5 j5 0 d hd5.start hd h0;obtain⟨QB,xI,HD5,tN,yS⟩:=ay hst5 hcx hd5 KQ ZM;clear hst5 hcx hd5 KQ ZM;clear hl5 qR GK hd4 Jh jB hz;go_wp2_with fail;refine xI.out.mono ?_;rintro en W6 ⟨y,v,j6,e6,rfl,⟨cs,rfl,hY⟩,kL,nY⟩;have hs6:=mD (ji f) kL;have uN:St R (aO (dG Xz) fun _=>pR (bV f) m' (QF x y)) T j6 e6:=QB.out.then_ kL;have hd6:=HD5.out.go nY;have hq6:=hd6.out.lt;obtain⟨A6,c6,rfl⟩:=dN.form hY;have hw6:=nY.size;obtain⟨XR,HD6,uZ,Jt⟩:=au uN hd6 hY nY;clear uN hd6 hY nY;clear kL xI QB;go_upto_region 4 with fail
   have vZ:=Box.made W6 81 #[.int .i64 y.kind,.int .i64 y.n,.string y.bT,.string y.s,.slice A6 y.args.length c6];have hby:Below W6.heap.size W6 (W6.alloc (.cells #[.int .i64 y.kind,.int .i64 y.n,.string y.bT,.string y.s,.slice A6 y.args.length c6] 81)):=by go_grown
   have hzy:(W6.alloc (.cells #[.int .i64 y.kind,.int .i64 y.n,.string y.bT,.string y.s,.slice A6 y.args.length c6] 81)).heap.size=W6.heap.size+1:=by simp
   generalize W6.alloc (.cells #[.int .i64 y.kind,.int .i64 y.n,.string y.bT,.string y.s,.slice A6 y.args.length c6] 81)=W7 at vZ hby hzy⊢;have hd7:=HD6.out.below hby;have hY7:=dN.stays.later uZ.out hby cZ;have hg7:Grew b W5 W7 (some b):=Jt.out.grew.wE (Grew.of_below hby tC);have hw7:=hby.size;have hms:=jO hd7.start Xz;have hyb:W6.heap.size≠b:=by have:=Jt.out.lt;omega
   obtain⟨HD7,HY7,HG7,qj,HBY⟩:=ay hd7 hY7 hg7 hms vZ;clear hd7 hY7 hg7 hms vZ;clear hby hzy HD6 uZ Jt;go_wp2_with fail;refine qj.out.mono ?_;rintro en W8 ⟨_,_,j8,e8,rfl,rfl,lN,rE⟩;have hs8:=mD mP lN;have rU:St R (pR (bV f) m' (QF x y)) T j8 e8:=XR.out.then_ lN;have hd8:=HD7.out.go rE;have hw8:=rE.size;have abd:=rE.grew.jm HBY.out hyb;have hY8:=dN.stays _ _ _ _ _ _ HY7.out (fun _ h=>h) (rE.grew.keeps (n:=W5.heap.size) (m:=W6.heap.size) (by have:=HD5.out.sight.lt;omega) hw7);have hY9:dN W8 (fresh W5.heap.size W8.heap.size) _ y:=dN.stays.wider hY8 (jQ (aJ _) (by omega));have F7:Grew b W5 W8 (some b):=HG7.out.wE rE.grew;have kY:=hd8.out;have hq8:W8.heap.size≠q:=Nat.ne_of_gt kY.lt;have t0:=fun o=>(hd8.alloc o).out.at_ 0 _ rfl
   have t1:=fun o=>(hd8.alloc o).out.at_ 1 _ rfl
   have t2:=fun o=>(hd8.alloc o).out.at_ 2 _ rfl
   have t3:=fun o=>(hd8.alloc o).out.at_ 3 _ rfl
   have t4:=fun o=>(hd8.alloc o).out.at_ 4 _ rfl
   have k0:=fun o=>(hd8.alloc o).out.free 0
   have k1:=fun o=>(hd8.alloc o).out.free 1
   have k2:=fun o=>(hd8.alloc o).out.free 2
   have k3:=fun o=>(hd8.alloc o).out.free 3
   have k4:=fun o=>(hd8.alloc o).out.free 4
   have x0:=kY.at_ 0 _ rfl;have x1:=kY.at_ 1 _ rfl;have x2:=kY.at_ 2 _ rfl;have x3:=kY.at_ 3 _ rfl;have x4:=kY.at_ 4 _ rfl;have y0:=abd.at_ 0 _ rfl;have y1:=abd.at_ 1 _ rfl;have y2:=abd.at_ 2 _ rfl;have y3:=abd.at_ 3 _ rfl;have y4:=abd.at_ 4 _ rfl;obtain⟨JW,uY,HY9,wI⟩:=au rU hd8 hY9 F7;clear rU hd8 hY9 F7;clear rE lN qj HD7 HY7 HG7 HBY kY abd hY8 XR;go_wp2_with fail;go_roundg (left T j8 e8)
   case measure=>omega
   case rel=>
    have hq5:=HD5.out.out.lt;have hX9:=JD 81 tN.out yS.out wI.out hbl HY9.out (k:=7) dS.2.2.2.2.2.2.2;have Tn:=yS.out.two wI.out.size hq5 HD5.out.le (.cells (([.int .i64 x.kind,.int .i64 x.n,.string x.bT,.string x.s,.slice A3 x.args.length c3]:List Value)++([.int .i64 y.kind,.int .i64 y.n,.string y.bT,.string y.s,.slice A6 y.args.length c6]:List Value)).toArray 81);have hnq:¬Js G W5.heap.size W8.heap.size q:=fun h=>(Tn _ h).2.1 rfl
    refine⟨m',2,some ⟨W8.heap.size,0,none⟩,QF x y,j8,e8,Js G W5.heap.size W8.heap.size,aJ _,by omega,aside JW.out,aside ?_,aside (dN.stays _ _ _ _ _ _ hX9 (fun _ h=>h) ?_),aside ?_⟩
    ·show jl b F A c T W _ _ q #[.int .i64 7,.int .i64 0,.string ⟨#[]⟩,.string ⟨#[]⟩,.slice (some ⟨W8.heap.size,0,none⟩) 2 2] _ j8 e8 d
     simpa using (((((uY.out.alloc _).set 0 (.int .i64 7)).set 1 (.int .i64 0)).set 2 (.string ⟨#[]⟩)).set 3 (.string ⟨#[]⟩)).set 4 (.slice (some ⟨W8.heap.size,0,none⟩) 2 2)
    ·exact(((((Keeps.refl _ _).setCell hnq _).setCell hnq _).setCell hnq _).setCell hnq _).setCell hnq _
    ·intro k hk;simp only[size_set];exact Tn k hk
section
variable {b:Nat} {F:aV} {A:Option Addr} {c:Nat} {T:List Token} {W W':World} {i:Nat} {e d:Int} {rt:TypeId} {rc:Array Value} {n:Nat} {v0 v1 v2 v3 v4:Value}
theorem jl.aes(h:jl b F A c T W rt rc n #[v0,v1,v2,v3,v4] W' i e d)(u0 u1 u2 u3 u4:Value):
  jl b F A c T W rt rc n #[u0,u1,u2,u3,u4] (((((W'.setCell ⟨n,0,none⟩ u0).setCell ⟨n,1,none⟩ u1).setCell ⟨n,2,none⟩ u2).setCell ⟨n,3,none⟩ u3).setCell ⟨n,4,none⟩ u4) i e d:=by
 simpa using ((((h.set 0 u0).set 1 u1).set 2 u2).set 3 u3).set 4 u4
theorem ZJ{G:aV}{cs:List Value}{x:Ex}(hX:dN W' G cs x)(hn:¬G n)(u0 u1 u2 u3 u4:Value):
  dN (((((W'.setCell ⟨n,0,none⟩ u0).setCell ⟨n,1,none⟩ u1).setCell ⟨n,2,none⟩ u2).setCell ⟨n,3,none⟩ u3).setCell ⟨n,4,none⟩ u4) G cs x:=
 dN.stays _ _ _ _ _ _ hX (fun _ h=>h) ((((((Keeps.refl _ _).setCell (fun h=>hn h) _).setCell (fun h=>hn h) _).setCell (fun h=>hn h) _).setCell (fun h=>hn h) _).setCell (fun h=>hn h) _)
theorem Fit.aes{q:Nat}{G:aV}(h:Fit W q W' G)(u0 u1 u2 u3 u4:Value):
  Fit W q (((((W'.setCell ⟨n,0,none⟩ u0).setCell ⟨n,1,none⟩ u1).setCell ⟨n,2,none⟩ u2).setCell ⟨n,3,none⟩ u3).setCell ⟨n,4,none⟩ u4) G:=by
 intro k hk;simp only[size_set];exact h k hk
end
def aeP(b:Nat)(F:aV)(A:Option Addr)(c:Nat)(T:List Token)(W:World)(R:Except Int (Ex×List Token))(n:Nat)(d:Int)(w':World):Prop:=
 ∃(x:Ex) (i':Nat) (e':Int) (A':Option Addr) (c':Nat) (G:aV),jl b F A c T W 81 #[.int .i64 0,.int .i64 0,.string ⟨#[]⟩,.string ⟨#[]⟩,.slice none 0 0] n #[.int .i64 x.kind,.int .i64 x.n,.string x.bT,.string x.s,.slice A' x.args.length c'] w' i' e' d∧
  dN w' G [.int .i64 x.kind,.int .i64 x.n,.string x.bT,.string x.s,.slice A' x.args.length c'] x∧Fit W n w' G∧St R (bJ x) T i' e'
theorem KD{b:Nat}{F:aV}{A:Option Addr}{c:Nat}{T:List Token}{W:World}{i f:Nat}{e d:Int}(h:dB b F A c T W W i e d)(hd:d+f=40)(h0:0≤d)
  (ih:∀f',f=f'+1→zC b F A c T f'):
  Calls prog 209 #[.pointer (some ⟨b,0,none⟩)] W (jP (zA dN) b F A c T W (bV f) i e d):=by
 obtain⟨e1,hdn,hst,he1⟩:∃e1,(∀U,Below W.heap.size W U→Calls prog 208 #[.pointer (some ⟨b,0,none⟩)] U fun en w'=>en=.returned (.tuple #[])∧dB b F A c T U w' i e1 (d+1))∧St (Rs (bV f) T i e) (bV f) T i e1∧(e1=0→∃f',f=f'+1):=by
  cases f with
  |zero=>
   obtain rfl:d=40:=by omega
   refine⟨uw e 1,fun U hU=>O8 (h.below hU).start,(St.start _).bad (fun _=>rfl) (by decide),fun h=>?_⟩;unfold uw at h;split at h
   ·cases h
   ·exact absurd h ‹_›
  |succ f=>exact⟨e,fun U hU=>O9 (h.below hU).start h0 (by omega),St.start _,fun _=>⟨f,rfl⟩⟩
 obtain⟨R,hR⟩:∃R,Rs (bV f) T i e=R:=⟨_,rfl⟩;unfold jP;rw[hR]at hst⊢;have hbl:=h.lt;obtain⟨HDN,HST,IH,HH,vk⟩:=ay hdn hst ih h he1;clear hdn hst ih h he1;clear hR;go_enter func209,ntmps209;go_upto_region 1 with fail
 have hBr:=Box.made W 81 #[.int .i64 0,.int .i64 0,.string ⟨#[]⟩,.string ⟨#[]⟩,.slice none 0 0];have hbr:Below W.heap.size W (W.alloc (.cells #[.int .i64 0,.int .i64 0,.string ⟨#[]⟩,.string ⟨#[]⟩,.slice none 0 0] 81)):=by go_grown
 have kJ:(W.alloc (.cells #[.int .i64 0,.int .i64 0,.string ⟨#[]⟩,.string ⟨#[]⟩,.slice none 0 0] 81)).heap.size=W.heap.size+1:=by simp
 generalize W.alloc (.cells #[.int .i64 0,.int .i64 0,.string ⟨#[]⟩,.string ⟨#[]⟩,.slice none 0 0] 81)=W1 at hBr hbr kJ⊢;have hs1:=HH.out.below hbr;have hlr:=hBr.lt;obtain⟨Hb,Eb,Jv⟩:=ak hbr hBr hs1;clear hbr hBr hs1;clear kJ;go_wp2_with fail;refine(HDN.out _ Hb.out).mono ?_;rintro en W2 ⟨rfl,hl⟩;have hs2:=Jv.out.trans hl;have hB2:=hl.grew.jm Eb.out (by omega);have ain:=hl.grew.size;clear hl Eb Jv Hb;go_upto_region 3 with fail
 have Di:=Box.made W2 81 #[.int .i64 0,.int .i64 0,.string ⟨#[]⟩,.string ⟨#[]⟩,.slice none 0 0];have ni:Below W2.heap.size W2 (W2.alloc (.cells #[.int .i64 0,.int .i64 0,.string ⟨#[]⟩,.string ⟨#[]⟩,.slice none 0 0] 81)):=by go_grown
 have Iu:(W2.alloc (.cells #[.int .i64 0,.int .i64 0,.string ⟨#[]⟩,.string ⟨#[]⟩,.slice none 0 0] 81)).heap.size=W2.heap.size+1:=by simp
 generalize W2.alloc (.cells #[.int .i64 0,.int .i64 0,.string ⟨#[]⟩,.string ⟨#[]⟩,.slice none 0 0] 81)=W3 at Di ni Iu⊢;obtain⟨n,hn⟩:∃n,W2.heap.size=n:=⟨_,rfl⟩;have hdi:jl b F A c T W 81 #[.int .i64 0,.int .i64 0,.string ⟨#[]⟩,.string ⟨#[]⟩,.slice none 0 0] W2.heap.size #[.int .i64 0,.int .i64 0,.string ⟨#[]⟩,.string ⟨#[]⟩,.slice none 0 0] W3 i e1 (d+1):=
  ⟨hs2.below ni,hB2.later ni hB2.lt,Di,hbl,by omega⟩
 rw[hn]at hdi⊢;clear hs2 hB2 Di ni Iu hn ain hlr W1 W2;have hB:=hdi.sight.box;have x2:=hB.at_ 2 _ rfl;have HD:=ah hdi;clear hdi;clear hB;go_upto_if 12 with (fail)
 go_cut [] (fun wc=>aeP b F A c T W R n (d+1) wc)
 case first=>
  by_cases hz:e1=0
  ·obtain⟨f',rfl⟩:=vk.out hz;subst hz;have hta:=Pm (IH.out f' rfl) W3 i (d+1) HD.out.start (by omega) (by omega);have hst:St R (aO (lq (bV f')) fun x l=>lT (lq (bV f')) l.length x l) T i 0:=HST.out;obtain⟨HTA,HS⟩:=aj hta hst;clear hta hst;clear HDN HST vk;go_wp2_with fail;refine HTA.out.mono ?_;rintro en W4 ⟨x,v,i4,e4,rfl,⟨cs,rfl,hX⟩,jB,hl⟩;have hst5:St R (lT (lq (bV f')) (T.drop i4).length x) T i4 e4:=(HS.out.then_ jB).eq (fun _=>rfl);have hd4:=HD.out.go hl;obtain⟨A4,c4,rfl⟩:=dN.form hX;have hn3:=HD.out.out.lt;have hle:=HD.out.le;have hf4:Fit W n W4 (fresh W3.heap.size W4.heap.size):=fun k hk=>⟨by have:=hk.1;omega,by have:=hk.1;omega,hk.2⟩
   have ho:=hd4.out;have y0:=ho.at_ 0 _ rfl;have y1:=ho.at_ 1 _ rfl;have y2:=ho.at_ 2 _ rfl;have y3:=ho.at_ 3 _ rfl;have y4:=ho.at_ 4 _ rfl;have g0:=ho.free 0;have g1:=ho.free 1;have g2:=ho.free 2;have g3:=ho.free 3;have g4:=ho.free 4;obtain⟨HD4,QD,HF4,F5⟩:=au hd4 hX hf4 hst5;clear hd4 hX hf4 hst5;clear ho hl jB HS HTA HD;go_wp2_with fail;go_loopg [] (left T i4 e4) (fun gg wr=>∃(m c3:Nat) (A3:Option Addr) (x:Ex) (j:Nat) (e3:Int) (G:aV),left T j e3≤gg∧left T j e3≤m+1∧Aside (St R (lT (lq (bV f')) m x) T j e3)∧
    Aside (jl b F A c T W 81 #[.int .i64 0,.int .i64 0,.string ⟨#[]⟩,.string ⟨#[]⟩,.slice none 0 0] n #[.int .i64 x.kind,.int .i64 x.n,.string x.bT,.string x.s,.slice A3 x.args.length c3] wr j e3 (d+1))∧
    Aside (dN wr G [.int .i64 x.kind,.int .i64 x.n,.string x.bT,.string x.s,.slice A3 x.args.length c3] x)∧Aside (Fit W n wr G))
   case atStart=>exact⟨_,c4,A4,x,i4,e4,_,aJ _,Bo,aside F5.out,aside (HD4.out.aes _ _ _ _ _),aside (ZJ QD.out (fun h=>by have h1:=h.1;omega) _ _ _ _ _),aside (HF4.out.aes _ _ _ _ _)⟩
   case round=>
    clear HD4 QD HF4 F5 y0 y1 y2 y3 y4 g0 g1 g2 g3 g4;obtain⟨m,c3,A3,x,j,e3,G,hg,hm,jB,hd4,GK,Jh⟩:=hrel;obtain⟨W5,rfl⟩:∃W,W=wr:=⟨_,rfl⟩;have htk:=jX hd4.out.start IQ;have qR:=ah htk;clear htk;go_wp2_with fail;refine qR.out.mono ?_;rintro en W6 ⟨z,j6,rfl,hz,nY⟩;have hd6:=hd4.out.go nY;have hX6:=ZI GK.out Jh.out hbl nY.grew;have hF6:=Jh.out.grew nY.grew;cases z with
    |false=>
     obtain⟨rfl,kL⟩:=SB jB.out hz;obtain⟨TP,HD6,tN,HF6⟩:=au kL hd6 hX6 hF6;clear kL hd6 hX6 hF6;clear nY hz qR GK hd4 Jh jB;go_wp2_with fail;go_meet;exact⟨x,j6,e3,A3,c3,G,HD6.out,tN.out,HF6.out,TP.out⟩
    |true=>
     obtain⟨m',rfl,kL⟩:=Zg jB.out hz hm;obtain⟨rfl,hlt⟩:=GY hz;have hcx:=Pm (IH.out f' rfl) W6 j6 (d+1) hd6.start (by omega) (by omega);obtain⟨TP,xI,HD6,tN,HF6⟩:=ay kL hcx hd6 hX6 hF6;clear kL hcx hd6 hX6 hF6;clear nY qR GK hd4 Jh jB hz;go_wp2_with fail;refine xI.out.mono ?_;rintro en W8 ⟨y,v,j8,e8,rfl,⟨cs,rfl,hY⟩,lN,rE⟩;have hs8:=mD (uT (ji f')) lN;have rU:St R (lT (lq (bV f')) m' (sumOf x y)) T j8 e8:=TP.out.then_ lN;have hd8:=HD6.out.go rE;have hq8:=hd8.out.lt;obtain⟨A6,c6,rfl⟩:=dN.form hY;have hw8:=rE.size;have F7:Grew b W6 W8 (some b):=rE.grew;obtain⟨JW,uY,uZ,wI⟩:=au rU hd8 hY F7;clear rU hd8 hY F7;clear lN xI TP rE;go_upto_region 7 with fail
     have vZ:=Box.made W8 81 #[.int .i64 y.kind,.int .i64 y.n,.string y.bT,.string y.s,.slice A6 y.args.length c6];have hby:Below W8.heap.size W8 (W8.alloc (.cells #[.int .i64 y.kind,.int .i64 y.n,.string y.bT,.string y.s,.slice A6 y.args.length c6] 81)):=by go_grown
     have hzy:(W8.alloc (.cells #[.int .i64 y.kind,.int .i64 y.n,.string y.bT,.string y.s,.slice A6 y.args.length c6] 81)).heap.size=W8.heap.size+1:=by simp
     generalize W8.alloc (.cells #[.int .i64 y.kind,.int .i64 y.n,.string y.bT,.string y.s,.slice A6 y.args.length c6] 81)=W9 at vZ hby hzy⊢;have hd9:=uY.out.below hby;have hY9:dN W9 (fresh W6.heap.size W9.heap.size) _ y:=dN.stays.wider (dN.stays.later uZ.out hby cZ) (jQ (aJ _) hby.size);have Iq:Grew b W6 W9 (some b):=wI.out.wE (Grew.of_below hby tC);have hw9:=hby.size;have ho9:=hd9.out;have hq9:W9.heap.size≠n:=Nat.ne_of_gt ho9.lt;have t0:=fun o=>(hd9.alloc o).out.at_ 0 _ rfl
     have t1:=fun o=>(hd9.alloc o).out.at_ 1 _ rfl
     have t2:=fun o=>(hd9.alloc o).out.at_ 2 _ rfl
     have t3:=fun o=>(hd9.alloc o).out.at_ 3 _ rfl
     have t4:=fun o=>(hd9.alloc o).out.at_ 4 _ rfl
     have k0:=fun o=>(hd9.alloc o).out.free 0
     have k1:=fun o=>(hd9.alloc o).out.free 1
     have k2:=fun o=>(hd9.alloc o).out.free 2
     have k3:=fun o=>(hd9.alloc o).out.free 3
     have k4:=fun o=>(hd9.alloc o).out.free 4
     have x0:=ho9.at_ 0 _ rfl;have x1:=ho9.at_ 1 _ rfl;have x2:=ho9.at_ 2 _ rfl;have x3:=ho9.at_ 3 _ rfl;have x4:=ho9.at_ 4 _ rfl;have y0:=vZ.at_ 0 _ rfl;have y1:=vZ.at_ 1 _ rfl;have y2:=vZ.at_ 2 _ rfl;have y3:=vZ.at_ 3 _ rfl;have y4:=vZ.at_ 4 _ rfl;obtain⟨qw,HY9,OH⟩:=ak hd9 hY9 Iq;clear hd9 hY9 Iq;clear uY uZ wI ho9 hby hzy vZ;go_wp2_with fail;go_roundg (left T j8 e8)
     case measure=>omega
     case rel=>
      have hq5:=HD6.out.out.lt;have hX9:=JD 81 tN.out HF6.out OH.out hbl HY9.out (k:=5) dS.2.2.2.2.2.1;have Tn:=HF6.out.two OH.out.size hq5 HD6.out.le (.cells (([.int .i64 x.kind,.int .i64 x.n,.string x.bT,.string x.s,.slice A3 x.args.length c3]:List Value)++([.int .i64 y.kind,.int .i64 y.n,.string y.bT,.string y.s,.slice A6 y.args.length c6]:List Value)).toArray 81);have hnq:¬Js G W6.heap.size W9.heap.size n:=fun h=>(Tn _ h).2.1 rfl
      exact⟨m',2,some ⟨W9.heap.size,0,none⟩,sumOf x y,j8,e8,Js G W6.heap.size W9.heap.size,aJ _,by omega,aside JW.out,aside ((qw.out.alloc _).aes _ _ _ _ _),aside (ZJ hX9 hnq _ _ _ _ _),aside (Tn.aes _ _ _ _ _)⟩
  ·have oN:(e1==0)=false:=by simp[hz]
   have HZ:=ah hz;clear hz;go_wp2_with fail;go_meet;exact⟨.mk 0 0 mt mt [],i,e1,none,0,none_,HD.out,oQ _ dS.1 dS.1 fP fP,fun k hk=>hk.elim,HST.out.stuck HZ.out⟩
 case rest=>
  obtain⟨x,i',e',A2,cc,G,hdi,hX,hF,hst⟩:=hcut;have hB:=hdi.sight.box;have hws:=hdi.sight.size;have hle:=hdi.sight.le;have x3:=hB.at_ 3 _ rfl;have g3:=hB.free 3;have hz:d+1-1=d:=by omega
  obtain⟨w9,rfl⟩:∃X,X=wc:=⟨_,rfl⟩;obtain⟨qw,HX,JW,HF9⟩:=au hdi hX hst hF;clear hdi hX hst hF;clear hB;go_upto_region 9 with fail
  obtain⟨w10,Rh⟩:∃X,X=w9.setCell ⟨b,3,none⟩ (.int .i64 d):=⟨_,rfl⟩;have hr:=qw.out.res.far (p:=⟨b,3,none⟩) qw.out.ne.2.2 (.int .i64 d);have ho:=qw.out.out.far (p:=⟨b,3,none⟩) qw.out.ne.2.1 (.int .i64 d);have hs:=qw.out.sight.put (e':=e') (d':=d) (i':=i') 3 (.int .i64 d) hle (by simp);have KP:dN w10 G [.int .i64 x.kind,.int .i64 x.n,.string x.bT,.string x.s,.slice A2 x.args.length cc] x:=by
   rw[Rh];exact dN.stays _ _ _ _ _ _ HX.out (fun _ h=>h) ((Keeps.refl _ _).setCell (fun hb=>by have h1:W.heap.size<b:=(HF9.out _ hb).1;omega) _)
  have adq:∀k,G k→W.heap.size<k∧k<w10.heap.size:=fun k hk=>by
   rw[Rh,size_set];exact⟨(HF9.out k hk).1,(HF9.out k hk).2.2⟩
  rw[←Rh]at hr ho hs⊢;clear Rh x3 g3 hz HX qw;have r0:=hr.at_ 0 _ rfl;have r1:=hr.at_ 1 _ rfl;have r2:=hr.at_ 2 _ rfl;have r3:=hr.at_ 3 _ rfl;have r4:=hr.at_ 4 _ rfl;have q0:=hr.free 0;have q1:=hr.free 1;have q2:=hr.free 2;have q3:=hr.free 3;have q4:=hr.free 4;have y0:=ho.at_ 0 _ rfl;have y1:=ho.at_ 1 _ rfl;have y2:=ho.at_ 2 _ rfl;have y3:=ho.at_ 3 _ rfl;have y4:=ho.at_ 4 _ rfl;obtain⟨HS,HX,HF⟩:=ak hs KP adq;clear hs KP adq;clear hr ho;go_wp2_with fail;refine bodyPost_ret (v:=.agg #[.int .i64 x.kind,.int .i64 x.n,.string x.bT,.string x.s,.slice A2 x.args.length cc]) (by simp[results,results209,go_sem,r0,r1,r2,r3,r4]) rfl ?_;exact⟨x,_,i',e',rfl,⟨_,rfl,mY HX.out HF.out _ _ _ _ _⟩,JW.out,HS.out.H7 hbl _ _ _ _ _⟩
theorem aaW{b:Nat}{F:aV}{A:Option Addr}{c:Nat}{T:List Token}:∀f:Nat,zC b F A c T f:=by
 intro f
 induction f with
 |zero=>exact fun W i e d h hd h0=>KD h hd h0 (fun f' h=>by cases h)
 |succ f ih=>exact fun W i e d h hd h0=>KD h hd h0 (fun f' hf=>by cases hf;exact ih)
section
variable {b:Nat} {F:aV} {A:Option Addr} {c:Nat} {T:List Token} {W W' W2:World} {i:Nat} {e d:Int} {rt:TypeId} {rc cs:Array Value} {n:Nat}
theorem jl.jI(h:jl b F A c T W rt rc n cs W' i e d)(j:Nat)(u:Value):jl b F A c T W rt (rc.setIfInBounds j u) n cs (W'.setCell ⟨W.heap.size,j,none⟩ u) i e d:=
 ⟨h.sight.set (p:=⟨W.heap.size,j,none⟩) (aJ _) h.lt u,h.res.put j u,h.out.far (p:=⟨W.heap.size,j,none⟩) (by have:=h.le;show n≠W.heap.size;omega) u,h.lt,h.le⟩
theorem jl.grown(h:jl b F A c T W rt rc n cs W' i e d){base:Nat}{row:Option Nat}(hg:Grew base W' W2 row)(hq:n<base):jl b F A c T W rt rc n cs W2 i e d:=
 ⟨h.sight.then_ ⟨hg.os,hg.tape,hg.output,hg.size,hg.block,fun k hk=>by have:=hg.low k hk;have:=h.le;omega⟩ h.lt,hg.box h.res (by have:=h.le;omega),hg.box h.out hq,h.lt,h.le⟩
end
section
variable {α β:Type} {R:Except Int (β×List Token)} {T:List Token} {i i':Nat} {e e':Int} {m:Nat} {ps:List Field} {K:List Field→Pr β} {x:ByteArray}
theorem P7{α β:Type}(s:ByteArray)(p q:Pr α)(f:α→Pr β)(l:List Token):aO (iL s p q) f l=iL s (aO p f) (aO q f) l:=by
 unfold aO iL;cases eX s l with
 |none=>rfl
 |some r=>rfl
theorem abq(h:St (Rs fJ T i e) (bJ x) T i' e'):left T i' e'+1≤left T i e∨left T i' e'=0:=by
 unfold Rs at h;rcases h with ⟨rfl,h⟩|⟨h0,h⟩
 ·by_cases he:e=0
  ·subst he;rw[if_pos rfl]at h;left;rw[left_ok,left_ok];cases hl:T.drop i with
   |nil=>rw[hl]at h;cases h
   |cons t u=>
    rw[hl,kT]at h;split at h
    ·have h2:=congrArg (fun r=>match r with|Except.ok (_,l)=>List.length l|_=>0) h;have h3:u.length=(T.drop i').length:=h2;rw[List.length_cons];omega
    ·cases h
  ·rw[if_neg he]at h;cases h
 ·right;unfold left;rw[if_neg h0]
theorem SA(h:St R (aO (jF m ps) K) T i 0)(hs:Seen Qe T i 0 true i')(hm:left T i 0≤m):St R (K ps) T i' 0:=by
 rcases hs with ⟨h1,_⟩|⟨_,_,hn⟩
 ·cases h1
 ·rw[left_ok]at hm;obtain⟨m',rfl⟩:∃m',m=m'+1:=⟨m-1,by omega⟩;exact h.eq (fun _=>bI (P5 hn))
theorem Zf(h:St R (aO (jF m ps) K) T i 0)(hs:Seen Qe T i 0 false i')(hm:left T i 0≤m):
  i'=i∧∃m',m=m'+1∧St R (aO (if ps.length=0 then bJ ()else dG nS) fun _=>aO fJ fun pn=>aO (dG rX) fun _=>aO (iM 40) fun t=>aO (jF m' (ps++ [⟨pn,t⟩])) K) T i 0:=by
 rcases hs with ⟨_,rfl,hn⟩|⟨h1,_⟩
 ·rw[left_ok]at hm;obtain⟨m',rfl⟩:∃m',m=m'+1:=⟨m-1,by omega⟩;refine⟨rfl,m',rfl,h.eq (fun h0=>?_)⟩;have h1:=aaf (m:=m') (ps:=ps) (hn h0);have h2:aO (aO (if ps.length=0 then bJ ()else dG nS) (fun _=>aO IJ fun p=>jF m' (ps++ [p]))) K=aO (if ps.length=0 then bJ ()else dG nS) fun _=>aO fJ fun pn=>aO (dG rX) fun _=>aO (iM 40) fun t=>aO (jF m' (ps++ [⟨pn,t⟩])) K:=by
   rw[jV]
   congr 1
   funext _
   rw[jV,aem]
  rw[←h2];unfold aO at h1⊢;rw[h1]
 ·cases h1
end
def agM(b:Nat)(F:aV)(A:Option Addr)(c:Nat)(T:List Token)(W:World)(R:Except Int (Func×List Token))(n v:ByteArray)(q B:Nat)(w':World):Prop:=
 ∃(ps:List Field) (A2:Option Addr) (c2 i:Nat) (e:Int) (G:aV),ps.length≤202∧St R (rW n v ps) T i e∧jl b F A c T W 83 #[.string ⟨#[]⟩,.string ⟨#[]⟩,.slice none 0 0,.int .i64 0,.string ⟨#[]⟩,.string ⟨#[]⟩,.slice none 0 0,.int .i64 0,.int .i64 0,.string ⟨#[]⟩,.string ⟨#[]⟩,.slice none 0 0] q #[.string n,.string v,.slice A2 ps.length c2,.int .i64 0,.string ⟨#[]⟩,.string ⟨#[]⟩,.slice none 0 0,.int .i64 0,.int .i64 0,.string ⟨#[]⟩,.string ⟨#[]⟩,.slice none 0 0] w' i e 0∧
  aZ aQ 5 78 B w' G (.slice A2 ps.length c2) ps∧(∀k,G k→B≤k)∧B≤w'.heap.size
theorem ac9 {b : Nat} {F : aV} {A : Option Addr} {c : Nat} {T : List Token} (W : World) (i : Nat) (e : Int) (h : dB b F A c T W W i e 0) :
    Calls prog 145 #[.pointer (some ⟨b, 0, none⟩)] W (jP (zA dF) b F A c T W xw i e 0) := by
  have hst : St (Rs xw T i e) xw T i e := St.start _
  obtain ⟨R, hR⟩ : ∃ R, Rs xw T i e = R := ⟨_, rfl⟩
  unfold jP
  rw [hR] at hst ⊢
  rw [LX] at hst
  have hbl := h.lt
  have aa3 := h.len
  have hnm := fun U (hU : Below W.heap.size W U) => ou (h.below hU).start
  have HST := Lib.hid hst; have HH := Lib.hid h; have Ee := Lib.hid hnm
  clear hst h hnm
  clear hR
  go_enter func145, ntmps145
  go_upto_region 1 with fail
  have hBr := Box.made W 83 #[.string ⟨#[]⟩, .string ⟨#[]⟩, .slice none 0 0, .int .i64 0, .string ⟨#[]⟩, .string ⟨#[]⟩, .slice none 0 0, .int .i64 0, .int .i64 0, .string ⟨#[]⟩, .string ⟨#[]⟩, .slice none 0 0]
  have hbr : Below W.heap.size W (W.alloc (.cells #[.string ⟨#[]⟩, .string ⟨#[]⟩, .slice none 0 0, .int .i64 0, .string ⟨#[]⟩, .string ⟨#[]⟩, .slice none 0 0, .int .i64 0, .int .i64 0, .string ⟨#[]⟩, .string ⟨#[]⟩, .slice none 0 0] 83)) := by go_grown
  have kJ : (W.alloc (.cells #[.string ⟨#[]⟩, .string ⟨#[]⟩, .slice none 0 0, .int .i64 0, .string ⟨#[]⟩, .string ⟨#[]⟩, .slice none 0 0, .int .i64 0, .int .i64 0, .string ⟨#[]⟩, .string ⟨#[]⟩, .slice none 0 0] 83)).heap.size = W.heap.size + 1 := by simp
  generalize W.alloc (.cells #[.string ⟨#[]⟩, .string ⟨#[]⟩, .slice none 0 0, .int .i64 0, .string ⟨#[]⟩, .string ⟨#[]⟩, .slice none 0 0, .int .i64 0, .int .i64 0, .string ⟨#[]⟩, .string ⟨#[]⟩, .slice none 0 0] 83) = W1 at hBr hbr kJ ⊢
  have hl1 := HH.out.below hbr
  have hrl := hBr.lt
  have Ed := Lib.hid hl1; have HB1 := Lib.hid hBr; have Hbr := Lib.hid hbr
  clear hl1 hBr hbr
  clear kJ
  go_wp2_with fail
  refine (Ee.out _ Hbr.out).mono ?_
  rintro en W2 ⟨n, _, i2, e2, rfl, ⟨rfl, hno⟩, hst2, hl2⟩
  have hst3 : St R (aO Vo (qF n)) T i2 e2 := HST.out.then_ hst2
  have oW := Ed.out.trans hl2
  have hb2 := hl2.grew.jm HB1.out (by omega)
  have hw2 := hl2.size
  have NI := Lib.hid hst3; have HL2 := Lib.hid oW; have HB2 := Lib.hid hb2; have HNO := Lib.hid hno
  clear hst3 oW hb2 hno
  clear hl2 hst2 HB1 Ed Ee HST
  go_upto_region 2 with fail
  have yT := Box.made W2 83 #[.string n, .string ⟨#[]⟩, .slice none 0 0, .int .i64 0, .string ⟨#[]⟩, .string ⟨#[]⟩, .slice none 0 0, .int .i64 0, .int .i64 0, .string ⟨#[]⟩, .string ⟨#[]⟩, .slice none 0 0]
  have hbf : Below W2.heap.size W2 (W2.alloc (.cells #[.string n, .string ⟨#[]⟩, .slice none 0 0, .int .i64 0, .string ⟨#[]⟩, .string ⟨#[]⟩, .slice none 0 0, .int .i64 0, .int .i64 0, .string ⟨#[]⟩, .string ⟨#[]⟩, .slice none 0 0] 83)) := by go_grown
  have Jk : (W2.alloc (.cells #[.string n, .string ⟨#[]⟩, .slice none 0 0, .int .i64 0, .string ⟨#[]⟩, .string ⟨#[]⟩, .slice none 0 0, .int .i64 0, .int .i64 0, .string ⟨#[]⟩, .string ⟨#[]⟩, .slice none 0 0] 83)).heap.size = W2.heap.size + 1 := by simp
  generalize W2.alloc (.cells #[.string n, .string ⟨#[]⟩, .slice none 0 0, .int .i64 0, .string ⟨#[]⟩, .string ⟨#[]⟩, .slice none 0 0, .int .i64 0, .int .i64 0, .string ⟨#[]⟩, .string ⟨#[]⟩, .slice none 0 0] 83) = W3 at yT hbf Jk ⊢
  have hd3 : jl b F A c T W 83 #[.string ⟨#[]⟩, .string ⟨#[]⟩, .slice none 0 0, .int .i64 0, .string ⟨#[]⟩, .string ⟨#[]⟩, .slice none 0 0, .int .i64 0, .int .i64 0, .string ⟨#[]⟩, .string ⟨#[]⟩, .slice none 0 0] W2.heap.size #[.string n, .string ⟨#[]⟩, .slice none 0 0, .int .i64 0, .string ⟨#[]⟩, .string ⟨#[]⟩, .slice none 0 0, .int .i64 0, .int .i64 0, .string ⟨#[]⟩, .string ⟨#[]⟩, .slice none 0 0] W3 i2 e2 0 :=
    ⟨HL2.out.below hbf, HB2.out.later hbf HB2.out.lt, yT, hbl, by omega⟩
  obtain ⟨q, hqe⟩ : ∃ q, W2.heap.size = q := ⟨_, rfl⟩
  rw [hqe] at hd3 ⊢
  have htk := jX hd3.start sLt
  have HD3 := Lib.hid hd3; have qR := Lib.hid htk
  clear hd3 htk
  clear hbf Jk yT HB2 HL2 hw2 hqe
  go_wp2_with fail
  refine qR.out.mono ?_
  rintro en W4 ⟨z, i4, rfl, hz, hl4⟩
  have hd4 := HD3.out.go hl4
  have HD4 := Lib.hid hd4
  clear hd4
  clear hl4 HD3
  go_upto_if 9 with (fail)
  go_cut [] (fun wc => ∃ (i' : Nat) (e' : Int) (v : ByteArray), okS v ∧ Aside (St R (qF n v) T i' e') ∧ Aside (jl b F A c T W 83 #[.string ⟨#[]⟩, .string ⟨#[]⟩, .slice none 0 0, .int .i64 0, .string ⟨#[]⟩, .string ⟨#[]⟩, .slice none 0 0, .int .i64 0, .int .i64 0, .string ⟨#[]⟩, .string ⟨#[]⟩, .slice none 0 0] q #[.string n, .string v, .slice none 0 0, .int .i64 0, .string ⟨#[]⟩, .string ⟨#[]⟩, .slice none 0 0, .int .i64 0, .int .i64 0, .string ⟨#[]⟩, .string ⟨#[]⟩, .slice none 0 0] wc i' e' 0))
  case first =>
    cases z with
    | false =>
      obtain ⟨rfl, jB⟩ := (show St R (iL sLt (aO (aO fJ fun v => aO (dG sGt) fun _ => bJ v) (qF n)) (aO (bJ mt) (qF n))) T i2 e2 from NI.out.eq (fun _ => P7 _ _ _ _ _)).no hz
      have Ia := Lib.hid jB
      clear jB
      clear hz
      go_wp2_with fail
      go_meet
      exact ⟨i4, e2, mt, fP, aside (Ia.out.eq (fun _ => rfl)), aside HD4.out⟩
    | true =>
      have jB := (show St R (iL sLt (aO (aO fJ fun v => aO (dG sGt) fun _ => bJ v) (qF n)) (aO (bJ mt) (qF n))) T i2 e2 from NI.out.eq (fun _ => P7 _ _ _ _ _)).yes hz
      rw [jV] at jB
      have hnm := ou HD4.out.start
      have Ia := Lib.hid jB; have Ee := Lib.hid hnm
      clear jB hnm
      clear hz
      go_wp2_with fail
      refine Ee.out.mono ?_
      rintro en W5 ⟨v, _, i5, e5, rfl, ⟨rfl, hvo⟩, hst5, hl5⟩
      have kL : St R (aO (aO (dG sGt) fun _ => bJ v) (qF n)) T i5 e5 := Ia.out.then_ hst5
      rw [jV] at kL
      have hd5 := HD4.out.go hl5
      have qm := hd5.out
      have x1 := qm.at_ 1 _ rfl
      have g1 := qm.free 1
      have HD5 := Lib.hid hd5; have Zu := Lib.hid kL; have HVO := Lib.hid hvo
      clear hd5 kL hvo
      clear hl5 qm hst5
      go_upto_region 4 with fail
      have hd6 := HD5.out.set 1 (.string v)
      simp only [List.setIfInBounds_toArray, List.set_cons_zero, List.set_cons_succ] at hd6
      generalize W5.setCell ⟨q, 1, none⟩ (.string v) = W6 at hd6 ⊢
      have hms := jO hd6.start sGt
      have HD6 := Lib.hid hd6; have qj := Lib.hid hms
      clear hd6 hms
      clear x1 g1
      go_wp2_with fail
      refine qj.out.mono ?_
      rintro en W7 ⟨_, _, i7, e7, rfl, rfl, uN, uI⟩
      have lN : St R (aO (bJ v) (qF n)) T i7 e7 := Zu.out.then_ uN
      have hd7 := HD6.out.go uI
      have JV := Lib.hid lN; have HD7 := Lib.hid hd7
      clear lN hd7
      clear uI uN
      go_wp2_with fail
      go_meet
      exact ⟨i7, e7, v, HVO.out, aside (JV.out.eq (fun _ => rfl)), aside HD7.out⟩
  case rest =>
  obtain ⟨i5, e5, v, hvo, hx5, hd5⟩ := hcut
  obtain ⟨W5, rfl⟩ : ∃ W, W = wc := ⟨_, rfl⟩
  have hms := jO hd5.out.start Y4
  have qj := Lib.hid hms; have HVO := Lib.hid hvo
  clear hms hvo
  clear HD4 qR NI
  go_wp2_with fail
  refine qj.out.mono ?_
  rintro en W6 ⟨_, _, i6, e6, rfl, rfl, kL, nY⟩
  have uN : St R (aO (jF ((T.drop i6).length + 1) []) (rW n v)) T i6 e6 := (hx5.out.then_ kL).eq (fun _ => rfl)
  have hd6 := hd5.out.go nY
  have hq6 := hd6.out.lt
  obtain ⟨B, hB⟩ : ∃ B, W6.heap.size = B := ⟨_, rfl⟩
  have Ti := Lib.hid uN; have HD6 := Lib.hid hd6; have XC := Lib.hid hB
  clear uN hd6 hB
  clear nY kL hx5 hd5 qj
  go_upto_block 0 with fail
  go_cut [] (fun wc => agM b F A c T W R n v q B wc)
  case first =>
    go_wp2_with fail
    go_loopg [] (left T i6 e6) (fun gg wr => ∃ (m c2 : Nat) (A2 : Option Addr) (ps : List Field) (j : Nat) (e7 : Int) (G : aV), left T j e7 ≤ gg ∧ left T j e7 ≤ m ∧ ps.length + left T j e7 ≤ 202 ∧ Aside (St R (aO (jF m ps) (rW n v)) T j e7) ∧
      Aside (jl b F A c T W 83 #[.string ⟨#[]⟩, .string ⟨#[]⟩, .slice none 0 0, .int .i64 0, .string ⟨#[]⟩, .string ⟨#[]⟩, .slice none 0 0, .int .i64 0, .int .i64 0, .string ⟨#[]⟩, .string ⟨#[]⟩, .slice none 0 0] q #[.string n, .string v, .slice A2 ps.length c2, .int .i64 0, .string ⟨#[]⟩, .string ⟨#[]⟩, .slice none 0 0, .int .i64 0, .int .i64 0, .string ⟨#[]⟩, .string ⟨#[]⟩, .slice none 0 0] wr j e7 0) ∧
      Aside (aZ aQ 5 78 B wr G (.slice A2 ps.length c2) ps) ∧ Aside (∀ k, G k → B ≤ k) ∧ Aside (B ≤ wr.heap.size))
    case atStart => exact ⟨_, 0, none, [], i6, e6, none_, aJ _, Bo, (by have : left T i6 e6 ≤ T.length + 1 := left_le; simp; omega), aside Ti.out, aside HD6.out, aside aZ.nil_, aside (fun k hk => hk.elim), aside (by have := XC.out; omega)⟩
    case round =>
      clear HD6 Ti
      obtain ⟨m, c2, A2, ps, j, e7, G, hg, hm, ahG, uN, hd7, xY, hG7, xX⟩ := hrel
      obtain ⟨W7, rfl⟩ : ∃ W, W = wr := ⟨_, rfl⟩
      have xX := xX.out
      have hbB : b < B := by have := XC.out; have := hd7.out.lt; have := hd7.out.le; omega
      have hqB : q < B := by have := XC.out; omega
      have he7 := hd7.out.sight.box
      have x2 := he7.at_ 2 _ rfl
      clear he7
      by_cases qo : e7 = 0
      · subst qo
        have htk := jX hd7.out.start Qe
        have qR := Lib.hid htk
        clear htk
        go_wp2_with fail
        refine qR.out.mono ?_
        rintro en W8 ⟨z, i8, rfl, hz, rE⟩
        have hd8 := hd7.out.go rE
        have tX := xY.out.read aQ.stays rE.grew hbB hG7.out
        have hB8 := rE.size
        cases z with
        | true =>
          have lN := SA uN.out hz hm
          have JV := Lib.hid lN; have uY := Lib.hid hd8; have vU := Lib.hid tX
          clear lN hd8 tX
          clear rE hd7 xY uN hz qR
          go_wp2_with fail
          go_meet
          exact ⟨ps, A2, c2, i8, 0, G, by omega, JV.out, uY.out, vU.out, hG7.out, by omega⟩
        | false =>
          obtain ⟨rfl, m', rfl, lN⟩ := Zf uN.out hz hm
          have kY := hd8.out
          have hlp : 1 ≤ left T i8 0 := by rw [left_ok]; omega
          clear x2
          have x2 := kY.at_ 2 _ rfl
          have JV := Lib.hid lN; have uY := Lib.hid hd8; have vU := Lib.hid tX; have wI := Lib.hid hG7
          clear lN hd8 tX hG7
          clear rE hd7 xY uN hz qR kY
          go_upto_if 30 with (fail)
          go_cut [] (fun wc => ∃ (j' : Nat) (e' : Int), left T j' e' ≤ left T i8 0 ∧ Aside (St R (aO fJ fun pn => aO (dG rX) fun _ => aO (iM 40) fun t => aO (jF m' (ps ++ [⟨pn, t⟩])) (rW n v)) T j' e') ∧
            Aside (jl b F A c T W 83 #[.string ⟨#[]⟩, .string ⟨#[]⟩, .slice none 0 0, .int .i64 0, .string ⟨#[]⟩, .string ⟨#[]⟩, .slice none 0 0, .int .i64 0, .int .i64 0, .string ⟨#[]⟩, .string ⟨#[]⟩, .slice none 0 0] q #[.string n, .string v, .slice A2 ps.length c2, .int .i64 0, .string ⟨#[]⟩, .string ⟨#[]⟩, .slice none 0 0, .int .i64 0, .int .i64 0, .string ⟨#[]⟩, .string ⟨#[]⟩, .slice none 0 0] wc j' e' 0) ∧ Aside (aZ aQ 5 78 B wc G (.slice A2 ps.length c2) ps) ∧ Aside (B ≤ wc.heap.size))
          case first =>
            by_cases hp : ps.length = 0
            · have rU := JV.out
              rw [if_pos hp] at rU
              have hpz : ¬ ((0 : Int) < (ps.length : Int)) := by omega
              have aof : (decide ((0 : Int) < (ps.length : Int))) = false := decide_eq_false hpz
              have HS9 := Lib.hid rU
              clear rU
              clear hp
              go_wp2_with fail
              go_meet
              exact ⟨i8, 0, aJ _, aside (HS9.out.eq (fun _ => rfl)), aside uY.out, aside vU.out, aside (by omega)⟩
            · have hpz : (0 : Int) < (ps.length : Int) := by omega
              have rU := JV.out
              rw [if_neg hp] at rU
              have hms := jO uY.out.start nS
              have HS9 := Lib.hid rU; have qj := Lib.hid hms
              clear rU hms
              clear hp
              go_wp2_with fail
              refine qj.out.mono ?_
              rintro en W9 ⟨_, _, j9, e9, rfl, rfl, xk, F8⟩
              have hs9 := mD mP xk
              have Af := HS9.out.then_ xk
              have hd9 := uY.out.go F8
              have qA := vU.out.read aQ.stays F8.grew hbB wI.out
              have oZ := F8.size
              have CP := Lib.hid Af; have qw := Lib.hid hd9; have zn := Lib.hid qA
              clear Af hd9 qA
              clear F8 xk
              go_wp2_with fail
              go_meet
              exact ⟨j9, e9, hs9, aside CP.out, aside qw.out, aside zn.out, aside (by omega)⟩
          case rest =>
          obtain ⟨j9, e9, aqX, rU, hd9, qA, hB9⟩ := hcut
          obtain ⟨W9, rfl⟩ : ∃ W, W = wc := ⟨_, rfl⟩
          have hB9 := hB9.out
          have hnm := ou hd9.out.start
          have HS9 := Lib.hid rU; have qw := Lib.hid hd9; have zn := Lib.hid qA; have Ee := Lib.hid hnm
          clear rU hd9 qA hnm
          clear x2 JV uY vU
          go_wp2_with fail
          refine Ee.out.mono ?_
          rintro en su ⟨pn, _, j10, e10, rfl, ⟨rfl, hpo⟩, xk, nO⟩
          have hs10 := abq xk
          have Af : St R (aO (dG rX) fun _ => aO (iM 40) fun t => aO (jF m' (ps ++ [⟨pn, t⟩])) (rW n v)) T j10 e10 := HS9.out.out.then_ xk
          have hd10 := qw.out.out.go nO
          have Dk := zn.out.out.read aQ.stays nO.grew hbB wI.out
          have ahJ := nO.size
          have Ip : ∀ k, G k → k < su.heap.size := fun k hk => (Dk.foot hk).1
          have hrow : ∀ k, (Value.slice A2 ps.length c2).ownBlock = some k → k < su.heap.size := fun k hk => (Dk.row hk).2
          have CP := Lib.hid Af; have sK := Lib.hid hd10; have JM := Lib.hid Dk; have HPO := Lib.hid hpo; have acw := Lib.hid Ip; have zF := Lib.hid hrow
          clear Af hd10 Dk hpo Ip hrow
          clear nO xk Ee qw zn HS9
          go_upto_region 10 with fail
          have qP := Box.made su 78 #[.string pn, .int .i64 0, .string ⟨#[]⟩, .string ⟨#[]⟩, .slice none 0 0]
          have hbp : Below su.heap.size su (su.alloc (.cells #[.string pn, .int .i64 0, .string ⟨#[]⟩, .string ⟨#[]⟩, .slice none 0 0] 78)) := by go_grown
          have hzp : (su.alloc (.cells #[.string pn, .int .i64 0, .string ⟨#[]⟩, .string ⟨#[]⟩, .slice none 0 0] 78)).heap.size = su.heap.size + 1 := by simp
          generalize su.alloc (.cells #[.string pn, .int .i64 0, .string ⟨#[]⟩, .string ⟨#[]⟩, .slice none 0 0] 78) = W11 at qP hbp hzp ⊢
          have hd11 := sK.out.below hbp
          have GH := JM.out.below aQ.stays hbp
          have hms := jO hd11.start rX
          have QN := hbp.size
          obtain ⟨pq, hpq⟩ : ∃ z, su.heap.size = z := ⟨_, rfl⟩
          rw [hpq] at qP ⊢
          have Lc : pq ≠ b := by omega
          have aoe : pq ≠ q := by omega
          have Q9 : q ≠ pq := by omega
          have hpl := qP.lt
          have zk := Lib.hid hd11; have JO := Lib.hid GH; have qj := Lib.hid hms; have acH := Lib.hid qP; have HPQ := Lib.hid hpq
          clear hd11 GH hms qP hpq
          clear hbp hzp sK JM
          go_wp2_with fail
          refine qj.out.mono ?_
          rintro en J4 ⟨_, _, j12, e12, rfl, rfl, hst12, hl12⟩
          have aq9 := mD mP hst12
          have UH : St R (aO (iM 40) fun t => aO (jF m' (ps ++ [⟨pn, t⟩])) (rW n v)) T j12 e12 := CP.out.then_ hst12
          have pz := zk.out.go hl12
          have KN := JO.out.read aQ.stays hl12.grew hbB wI.out
          have adv := hl12.grew.jm acH.out Lc
          have ahK := hl12.size
          have hkd := Gx 40 J4 j12 e12 0 pz.start (by omega) (by omega)
          have ajJ := Lib.hid UH; have rJ := Lib.hid pz; have JQ := Lib.hid KN; have acI := Lib.hid adv; have HKD := Lib.hid hkd
          clear UH pz KN adv hkd
          clear hl12 hst12 qj zk JO CP acH
          go_wp2_with fail
          refine HKD.out.mono ?_
          rintro en vg ⟨ty, _, j13, e13, rfl, ⟨cs, rfl, hY⟩, PL, pF⟩
          have aoi := mD (yG 40) PL
          have UJ : St R (aO (jF m' (ps ++ [⟨pn, ty⟩])) (rW n v)) T j13 e13 := ajJ.out.then_ PL
          have rQ := rJ.out.go pF
          have GI := JQ.out.read aQ.stays pF.grew hbB wI.out
          have wu := pF.grew.jm acI.out Lc
          have ahL := pF.size
          obtain ⟨A3, c3, rfl⟩ := iD.form hY
          have x1 := wu.at_ 1 _ rfl
          have x2 := wu.at_ 2 _ rfl
          have x3 := wu.at_ 3 _ rfl
          have x4 := wu.at_ 4 _ rfl
          have g1 := wu.free 1
          have g2 := wu.free 2
          have g3 := wu.free 3
          have g4 := wu.free 4
          have am1 := Lib.hid UJ; have qc := Lib.hid rQ; have acD := Lib.hid GI; have acJ := Lib.hid wu; have uZ := Lib.hid hY
          clear UJ rQ GI wu hY
          clear pF PL HKD rJ JQ ajJ acI
          go_upto_region 12 with fail
          have hfp : ∀ k, G k → k ≠ pq := fun k hk => by have := acw.out k hk; have := HPQ.out; omega
          have hrp : ∀ k, (Value.slice A2 ps.length c2).ownBlock = some k → k ≠ pq := fun k hk => by have := zF.out k hk; have := HPQ.out; omega
          have Ac := (((acJ.out.put 1 (.int .i64 ty.kind)).put 2 (.string ty.bT)).put 3 (.string ty.name)).put 4 (.slice A3 ty.args.length c3)
          simp only [List.setIfInBounds_toArray, List.set_cons_zero, List.set_cons_succ] at Ac
          have Ym := (((acD.out.AO aQ.stays (p := ⟨pq, 1, none⟩) hfp hrp (.int .i64 ty.kind)).AO aQ.stays (p := ⟨pq, 2, none⟩) hfp hrp (.string ty.bT)).AO aQ.stays (p := ⟨pq, 3, none⟩) hfp hrp (.string ty.name)).AO aQ.stays (p := ⟨pq, 4, none⟩) hfp hrp (.slice A3 ty.args.length c3)
          have Q5 : W.heap.size ≤ pq := by have := qc.out.le; have := HPQ.out; omega
          have Rf : W.heap.size ≠ pq := by have := qc.out.le; have := HPQ.out; omega
          have uH : jl b F A c T W 83 #[.string ⟨#[]⟩, .string ⟨#[]⟩, .slice none 0 0, .int .i64 0, .string ⟨#[]⟩, .string ⟨#[]⟩, .slice none 0 0, .int .i64 0, .int .i64 0, .string ⟨#[]⟩, .string ⟨#[]⟩, .slice none 0 0] q #[.string n, .string v, .slice A2 ps.length c2, .int .i64 0, .string ⟨#[]⟩, .string ⟨#[]⟩, .slice none 0 0, .int .i64 0, .int .i64 0, .string ⟨#[]⟩, .string ⟨#[]⟩, .slice none 0 0] ((((vg.setCell ⟨pq, 1, none⟩ (.int .i64 ty.kind)).setCell ⟨pq, 2, none⟩ (.string ty.bT)).setCell ⟨pq, 3, none⟩ (.string ty.name)).setCell ⟨pq, 4, none⟩ (.slice A3 ty.args.length c3)) j13 e13 0 :=
            ⟨(((qc.out.sight.set (p := ⟨pq, 1, none⟩) Q5 hbl _).set (p := ⟨pq, 2, none⟩) Q5 hbl _).set (p := ⟨pq, 3, none⟩) Q5 hbl _).set (p := ⟨pq, 4, none⟩) Q5 hbl _,
             (((qc.out.res.far (p := ⟨pq, 1, none⟩) Rf _).far (p := ⟨pq, 2, none⟩) Rf _).far (p := ⟨pq, 3, none⟩) Rf _).far (p := ⟨pq, 4, none⟩) Rf _,
             (((qc.out.out.far (p := ⟨pq, 1, none⟩) Q9 _).far (p := ⟨pq, 2, none⟩) Q9 _).far (p := ⟨pq, 3, none⟩) Q9 _).far (p := ⟨pq, 4, none⟩) Q9 _, qc.out.lt, qc.out.le⟩
          have hyk : ¬ fresh J4.heap.size vg.heap.size pq := fun h => by have := h.1; omega
          have Yo := iD.stays _ _ _ _ _ _ uZ.out (fun _ h => h) (((((Keeps.refl _ _).setCell (q := ⟨pq, 1, none⟩) hyk (.int .i64 ty.kind)).setCell (q := ⟨pq, 2, none⟩) hyk (.string ty.bT)).setCell (q := ⟨pq, 3, none⟩) hyk (.string ty.name)).setCell (q := ⟨pq, 4, none⟩) hyk (.slice A3 ty.args.length c3))
          have Dh : ((((vg.setCell ⟨pq, 1, none⟩ (.int .i64 ty.kind)).setCell ⟨pq, 2, none⟩ (.string ty.bT)).setCell ⟨pq, 3, none⟩ (.string ty.name)).setCell ⟨pq, 4, none⟩ (.slice A3 ty.args.length c3)).heap.size = vg.heap.size := by simp only [size_set]
          generalize (((vg.setCell ⟨pq, 1, none⟩ (.int .i64 ty.kind)).setCell ⟨pq, 2, none⟩ (.string ty.bT)).setCell ⟨pq, 3, none⟩ (.string ty.name)).setCell ⟨pq, 4, none⟩ (.slice A3 ty.args.length c3) = W14 at Ac Ym uH Yo Dh ⊢
          have kX := uH.out
          clear x1 x2 x3 x4 g1 g2 g3 g4
          have x0 := Ac.at_ 0 _ rfl
          have x1 := Ac.at_ 1 _ rfl
          have x2 := Ac.at_ 2 _ rfl
          have x3 := Ac.at_ 3 _ rfl
          have x4 := Ac.at_ 4 _ rfl
          have y2 := kX.at_ 2 _ rfl
          have hy2 := fun o => (kX.alloc o).at_ 2 _ rfl
          have hyf := fun o => (kX.alloc o).free 2
          have hFR : aQ W14 (fresh J4.heap.size vg.heap.size) [.string pn, .int .i64 ty.kind, .string ty.bT, .string ty.name, .slice A3 ty.args.length c3] ⟨pn, ty⟩ := ⟨[.int .i64 ty.kind, .string ty.bT, .string ty.name, .slice A3 ty.args.length c3], rfl, HPO.out, Yo⟩
          have hql : q < W14.heap.size := kX.lt
          have XG := Lib.hid uH; have aha := Lib.hid Ym; have JJ := Lib.hid hFR; have Ej := Lib.hid Dh
          clear uH Ym hFR Dh
          clear Ac acJ acD qc uZ kX Yo hfp hrp
          go_wp2_with (at_builtin; go_must ((refine bH aQ.stays (.agg #[.string ⟨#[]⟩, .int .i64 0, .string ⟨#[]⟩, .string ⟨#[]⟩, .slice none 0 0]) [.string pn, .int .i64 ty.kind, .string ty.bT, .string ty.name, .slice A3 ty.args.length c3] ⟨pn, ty⟩ rfl rfl underlying24 (bytes := 80) (by kernel_rfl) aha.out rfl rfl (by decide) rfl rfl JJ.out (sZ JJ.out) (fun k hk => ⟨by have := hk.2; have := Ej.out; omega, fun e => by have := zF.out k e.symm; have := hk.1; omega⟩) (by unfold maxLen; omega) (by omega) (by have := Ej.out; omega) ?_); (intro A6 c6 W15 mV hgr _; have KW := XG.out.grown hgr hqB; have Yv := KW.out; have z2 := Yv.at_ 2 _ rfl; have f2 := Yv.free 2; have hgs := hgr.size; have agV := Lib.hid KW; have ahb := Lib.hid mV; have HGS := Lib.hid hgs; clear mV hgr KW Yv hgs)))
          have hdec : left T j13 e13 + 1 ≤ left T i8 0 := by omega
          have hmm : left T j13 e13 ≤ m' := by omega
          go_roundg (left T j13 e13)
          case measure => omega
          case rel =>
            have adI := agV.out.set 2 (.slice A6 (ps.length + 1) c6)
            simp only [List.setIfInBounds_toArray, List.set_cons_zero, List.set_cons_succ] at adI
            have ads : ∀ k, G k ∨ fresh J4.heap.size vg.heap.size k → B ≤ k := fun k hk => hk.elim (wI.out k) (fun h => by have := h.1; omega)
            refine ⟨m', c6, A6, ps ++ [⟨pn, ty⟩], j13, e13, (fun k => G k ∨ fresh J4.heap.size vg.heap.size k), aJ _, hmm, by rw [List.length_append, List.length_singleton]; omega, aside am1.out, aside ?_, aside ?_, aside ads, aside ?_⟩
            · rw [List.length_append, List.length_singleton]; exact adI
            · have h := ahb.out.set aQ.stays (p := ⟨q, 2, none⟩) (by show q < B; omega) (fun k hk => by have := ads k hk; show k ≠ q; omega) (.slice A6 (ps.length + 1) c6)
              rw [List.length_append, List.length_singleton]; exact h
            · rw [size_set]; have := HGS.out; have := Ej.out; omega
      · have oN : (e7 == 0) = false := by simp [qo]
        have lN : St R (rW n v ps) T j e7 := uN.out.stuck qo
        have JV := Lib.hid lN
        clear lN
        go_wp2_with fail
        go_meet
        exact ⟨ps, A2, c2, j, e7, G, by omega, JV.out, hd7.out, xY.out, hG7.out, by omega⟩
  case rest =>
  clear HD6 Ti
  obtain ⟨ps, A7, c7, i8, e8, G, hpl, lN, hd8, tX, hG8, hB8⟩ := hcut
  obtain ⟨W8, rfl⟩ : ∃ W, W = wc := ⟨_, rfl⟩
  have hbB : b < B := by have := XC.out; have := hd8.lt; have := hd8.le; omega
  have hms := jO hd8.start rX
  have JV := Lib.hid lN; have uY := Lib.hid hd8; have vU := Lib.hid tX; have wI := Lib.hid hG8; have qj := Lib.hid hms
  clear lN hd8 tX hG8 hms
  go_wp2_with fail
  refine qj.out.mono ?_
  rintro en W9 ⟨_, _, i9, e9, rfl, rfl, rU, F8⟩
  have xk : St R (aO (iM 40) fun t => aO (dG sEq) fun _ => aO (bV 40) fun x => bJ ⟨n, v, ps, t, x⟩) T i9 e9 := JV.out.then_ rU
  have hd9 := uY.out.go F8
  have qA := vU.out.read aQ.stays F8.grew hbB wI.out
  have hB9 := F8.size
  have hkd := Gx 40 W9 i9 e9 0 hd9.start (by omega) (by omega)
  have ajH := Lib.hid xk; have qw := Lib.hid hd9; have zn := Lib.hid qA; have HKD := Lib.hid hkd
  clear xk hd9 qA hkd
  clear F8 rU qj uY vU JV
  go_wp2_with fail
  refine HKD.out.mono ?_
  rintro en su ⟨ty, _, i10, e10, rfl, ⟨cs, rfl, hY⟩, Af, nO⟩
  have hst12 : St R (aO (dG sEq) fun _ => aO (bV 40) fun x => bJ ⟨n, v, ps, ty, x⟩) T i10 e10 := ajH.out.then_ Af
  have hd10 := qw.out.go nO
  have Dk := zn.out.read aQ.stays nO.grew hbB wI.out
  have ahJ := nO.size
  obtain ⟨A2, c2, rfl⟩ := iD.form hY
  have yg := hd10.out
  have hBE := XC.out
  have aqB := hd10.le
  have x3 := yg.at_ 3 _ rfl
  have x4 := yg.at_ 4 _ rfl
  have x5 := yg.at_ 5 _ rfl
  have x6 := yg.at_ 6 _ rfl
  have g3 := yg.free 3
  have g4 := yg.free 4
  have g5 := yg.free 5
  have g6 := yg.free 6
  have ajI := Lib.hid hst12; have sK := Lib.hid hd10; have JM := Lib.hid Dk; have uZ := Lib.hid hY
  clear hst12 hd10 Dk hY
  clear nO Af HKD qw zn ajH yg
  go_upto_region 15 with fail
  have hd11 := (((sK.out.set 3 (.int .i64 ty.kind)).set 4 (.string ty.bT)).set 5 (.string ty.name)).set 6 (.slice A2 ty.args.length c2)
  simp only [List.setIfInBounds_toArray, List.set_cons_zero, List.set_cons_succ] at hd11
  have GH := (((JM.out.set aQ.stays (p := ⟨q, 3, none⟩) (by show q < B; omega) (fun k hk => by have := wI.out k hk; show k ≠ q; omega) (.int .i64 ty.kind)).set aQ.stays (p := ⟨q, 4, none⟩) (by show q < B; omega) (fun k hk => by have := wI.out k hk; show k ≠ q; omega) (.string ty.bT)).set aQ.stays (p := ⟨q, 5, none⟩) (by show q < B; omega) (fun k hk => by have := wI.out k hk; show k ≠ q; omega) (.string ty.name)).set aQ.stays (p := ⟨q, 6, none⟩) (by show q < B; omega) (fun k hk => by have := wI.out k hk; show k ≠ q; omega) (.slice A2 ty.args.length c2)
  have hqk : ¬ fresh W9.heap.size su.heap.size q := fun h => by have := h.1; omega
  have Yn := iD.stays _ _ _ _ _ _ uZ.out (fun _ h => h) (((((Keeps.refl _ _).setCell (q := ⟨q, 3, none⟩) hqk (.int .i64 ty.kind)).setCell (q := ⟨q, 4, none⟩) hqk (.string ty.bT)).setCell (q := ⟨q, 5, none⟩) hqk (.string ty.name)).setCell (q := ⟨q, 6, none⟩) hqk (.slice A2 ty.args.length c2))
  have QN : ((((su.setCell ⟨q, 3, none⟩ (.int .i64 ty.kind)).setCell ⟨q, 4, none⟩ (.string ty.bT)).setCell ⟨q, 5, none⟩ (.string ty.name)).setCell ⟨q, 6, none⟩ (.slice A2 ty.args.length c2)).heap.size = su.heap.size := by simp only [size_set]
  generalize (((su.setCell ⟨q, 3, none⟩ (.int .i64 ty.kind)).setCell ⟨q, 4, none⟩ (.string ty.bT)).setCell ⟨q, 5, none⟩ (.string ty.name)).setCell ⟨q, 6, none⟩ (.slice A2 ty.args.length c2) = W11 at hd11 GH Yn QN ⊢
  have hms := jO hd11.start sEq
  have zk := Lib.hid hd11; have JO := Lib.hid GH; have acQ := Lib.hid Yn; have qj := Lib.hid hms; have CP := Lib.hid QN
  clear hd11 GH Yn hms QN
  clear x3 x4 x5 x6 g3 g4 g5 g6 uZ JM sK
  go_wp2_with fail
  refine qj.out.mono ?_
  rintro en J4 ⟨_, _, i12, e12, rfl, rfl, UH, hl12⟩
  have PL : St R (aO (bV 40) fun x => bJ ⟨n, v, ps, ty, x⟩) T i12 e12 := ajI.out.then_ UH
  have pz := zk.out.go hl12
  have KN := JO.out.read aQ.stays hl12.grew hbB wI.out
  have adB := iD.stays _ _ _ _ _ _ acQ.out (fun _ h => h) (hl12.grew.keeps (n := W9.heap.size) (m := su.heap.size) (by omega) (by have := CP.out; omega))
  have ahK := hl12.size
  have hex := aaW 40 J4 i12 e12 0 pz.start (by omega) (by omega)
  have ajK := Lib.hid PL; have rJ := Lib.hid pz; have JQ := Lib.hid KN; have acR := Lib.hid adB; have HEX := Lib.hid hex
  clear PL pz KN adB hex
  clear hl12 UH qj zk JO ajI acQ
  go_wp2_with fail
  refine HEX.out.mono ?_
  rintro en vg ⟨ex, _, i13, e13, rfl, ⟨cs, rfl, hZ⟩, UJ, pF⟩
  have agE : St R (bJ ⟨n, v, ps, ty, ex⟩) T i13 e13 := ajK.out.then_ UJ
  have rQ := rJ.out.go pF
  have GI := JQ.out.read aQ.stays pF.grew hbB wI.out
  have adC := iD.stays _ _ _ _ _ _ acR.out (fun _ h => h) (pF.grew.keeps (n := W9.heap.size) (m := su.heap.size) (by omega) (by have := CP.out; omega))
  have ahL := pF.size
  obtain ⟨A3, c3, rfl⟩ := dN.form hZ
  have uK := rQ.out
  have aii := rQ.res
  have anQ := CP.out
  have hps : SliceOf aQ 5 80 vg (fresh B vg.heap.size) (.slice A7 ps.length c7) ps := GI.slice aQ.stays (fun k hk => ⟨wI.out k hk, (GI.foot hk).1⟩) (fun k h1 h2 => ⟨h1, h2⟩) (by omega) (by omega)
  have hrB : W.heap.size < B := by have := rJ.out.le; omega
  have x7 := uK.at_ 7 _ rfl
  have x8 := uK.at_ 8 _ rfl
  have x9 := uK.at_ 9 _ rfl
  have x10 := uK.at_ 10 _ rfl
  have x11 := uK.at_ 11 _ rfl
  have g7 := uK.free 7
  have g8 := uK.free 8
  have g9 := uK.free 9
  have g10 := uK.free 10
  have g11 := uK.free 11
  have am2 := Lib.hid agE; have qc := Lib.hid rQ; have HPS := Lib.hid hps; have ahv := Lib.hid adC; have ahw := Lib.hid hZ
  clear agE rQ hps adC hZ
  clear pF UJ HEX rJ JQ ajK acR uK aii GI
  go_upto_region 17 with fail
  have uH := ((((qc.out.set 7 (.int .i64 ex.kind)).set 8 (.int .i64 ex.n)).set 9 (.string ex.bT)).set 10 (.string ex.s)).set 11 (.slice A3 ex.args.length c3)
  simp only [List.setIfInBounds_toArray, List.set_cons_zero, List.set_cons_succ] at uH
  have hnq : ∀ m, B ≤ m → ¬ fresh m vg.heap.size q := fun m hm h => by have := h.1; omega
  have Yq : ∀ m, B ≤ m → Keeps (fresh m vg.heap.size) vg (((((vg.setCell ⟨q, 7, none⟩ (.int .i64 ex.kind)).setCell ⟨q, 8, none⟩ (.int .i64 ex.n)).setCell ⟨q, 9, none⟩ (.string ex.bT)).setCell ⟨q, 10, none⟩ (.string ex.s)).setCell ⟨q, 11, none⟩ (.slice A3 ex.args.length c3)) := fun m hm =>
    (((((Keeps.refl _ _).setCell (hnq m hm) _).setCell (hnq m hm) _).setCell (hnq m hm) _).setCell (hnq m hm) _).setCell (hnq m hm) _
  have Dh : (((((vg.setCell ⟨q, 7, none⟩ (.int .i64 ex.kind)).setCell ⟨q, 8, none⟩ (.int .i64 ex.n)).setCell ⟨q, 9, none⟩ (.string ex.bT)).setCell ⟨q, 10, none⟩ (.string ex.s)).setCell ⟨q, 11, none⟩ (.slice A3 ex.args.length c3)).heap.size = vg.heap.size := by simp only [size_set]
  generalize ((((vg.setCell ⟨q, 7, none⟩ (.int .i64 ex.kind)).setCell ⟨q, 8, none⟩ (.int .i64 ex.n)).setCell ⟨q, 9, none⟩ (.string ex.bT)).setCell ⟨q, 10, none⟩ (.string ex.s)).setCell ⟨q, 11, none⟩ (.slice A3 ex.args.length c3) = W14 at uH Yq Dh ⊢
  have kX := uH.out
  have jh := uH.res
  clear x7 x8 x9 x10 x11 g7 g8 g9 g10 g11
  have x0 := kX.at_ 0 _ rfl
  have x1 := kX.at_ 1 _ rfl
  have x2 := kX.at_ 2 _ rfl
  have x3 := kX.at_ 3 _ rfl
  have x4 := kX.at_ 4 _ rfl
  have x5 := kX.at_ 5 _ rfl
  have x6 := kX.at_ 6 _ rfl
  have x7 := kX.at_ 7 _ rfl
  have x8 := kX.at_ 8 _ rfl
  have x9 := kX.at_ 9 _ rfl
  have x10 := kX.at_ 10 _ rfl
  have x11 := kX.at_ 11 _ rfl
  have r0 := jh.at_ 0 _ rfl
  have r1 := jh.at_ 1 _ rfl
  have r2 := jh.at_ 2 _ rfl
  have r3 := jh.at_ 3 _ rfl
  have r4 := jh.at_ 4 _ rfl
  have r5 := jh.at_ 5 _ rfl
  have r6 := jh.at_ 6 _ rfl
  have r7 := jh.at_ 7 _ rfl
  have r8 := jh.at_ 8 _ rfl
  have r9 := jh.at_ 9 _ rfl
  have r10 := jh.at_ 10 _ rfl
  have r11 := jh.at_ 11 _ rfl
  have k0 := jh.free 0
  have k1 := jh.free 1
  have k2 := jh.free 2
  have k3 := jh.free 3
  have k4 := jh.free 4
  have k5 := jh.free 5
  have k6 := jh.free 6
  have k7 := jh.free 7
  have k8 := jh.free 8
  have k9 := jh.free 9
  have k10 := jh.free 10
  have k11 := jh.free 11
  have XG := Lib.hid uH; have ag6 := Lib.hid Yq; have Ej := Lib.hid Dh
  clear uH Yq Dh
  clear kX jh
  go_wp2_with fail
  refine bodyPost_ret (v := .agg #[.string n, .string v, .slice A7 ps.length c7, .int .i64 ty.kind, .string ty.bT, .string ty.name, .slice A2 ty.args.length c2, .int .i64 ex.kind, .int .i64 ex.n, .string ex.bT, .string ex.s, .slice A3 ex.args.length c3]) (by simp [results, results145, go_sem, r0, r1, r2, r3, r4, r5, r6, r7, r8, r9, r10, r11]) rfl ?_
  have hnr : ∀ m, B ≤ m → ¬ fresh m vg.heap.size W.heap.size := fun m hm h => by have := h.1; omega
  have Yr := fun m (hm : B ≤ m) => (((((((((((((ag6.out m hm).setCell (q := ⟨W.heap.size, 0, none⟩) (hnr m hm) (.string n)).setCell (q := ⟨W.heap.size, 1, none⟩) (hnr m hm) (.string v)).setCell (q := ⟨W.heap.size, 2, none⟩) (hnr m hm) (.slice A7 ps.length c7)).setCell (q := ⟨W.heap.size, 3, none⟩) (hnr m hm) (.int .i64 ty.kind)).setCell (q := ⟨W.heap.size, 4, none⟩) (hnr m hm) (.string ty.bT)).setCell (q := ⟨W.heap.size, 5, none⟩) (hnr m hm) (.string ty.name)).setCell (q := ⟨W.heap.size, 6, none⟩) (hnr m hm) (.slice A2 ty.args.length c2)).setCell (q := ⟨W.heap.size, 7, none⟩) (hnr m hm) (.int .i64 ex.kind)).setCell (q := ⟨W.heap.size, 8, none⟩) (hnr m hm) (.int .i64 ex.n)).setCell (q := ⟨W.heap.size, 9, none⟩) (hnr m hm) (.string ex.bT)).setCell (q := ⟨W.heap.size, 10, none⟩) (hnr m hm) (.string ex.s)).setCell (q := ⟨W.heap.size, 11, none⟩) (hnr m hm) (.slice A3 ex.args.length c3))
  have KW := (((((((((((XG.out.jI 0 (.string n)).jI 1 (.string v)).jI 2 (.slice A7 ps.length c7)).jI 3 (.int .i64 ty.kind)).jI 4 (.string ty.bT)).jI 5 (.string ty.name)).jI 6 (.slice A2 ty.args.length c2)).jI 7 (.int .i64 ex.kind)).jI 8 (.int .i64 ex.n)).jI 9 (.string ex.bT)).jI 10 (.string ex.s)).jI 11 (.slice A3 ex.args.length c3)
  have ah4 := KW.sight
  have hup : ∀ m k, B ≤ m → fresh m vg.heap.size k → fresh W.heap.size W14.heap.size k := fun m k hm hk => ⟨by have := hk.1; omega, by have := hk.2; have := Ej.out; omega⟩
  refine ⟨_, _, i13, e13, rfl, ⟨[.string n, .string v, .slice A7 ps.length c7, .int .i64 ty.kind, .string ty.bT, .string ty.name, .slice A2 ty.args.length c2, .int .i64 ex.kind, .int .i64 ex.n, .string ex.bT, .string ex.s, .slice A3 ex.args.length c3], rfl, _, [.int .i64 ty.kind, .string ty.bT, .string ty.name, .slice A2 ty.args.length c2], [.int .i64 ex.kind, .int .i64 ex.n, .string ex.bT, .string ex.s, .slice A3 ex.args.length c3], rfl, HNO.out, HVO.out, ?_, ?_, ?_⟩, am2.out, ah4⟩
  · simp only [size_set]
    exact SliceOf.stays aQ.stays HPS.out (fun k hk => hup _ _ (aJ _) hk) (Yr B (aJ _))
  · simp only [size_set]
    exact iD.stays _ _ _ _ _ _ ahv.out (fun k hk => ⟨by have := hk.1; omega, by have := hk.2; have := Ej.out; omega⟩) ((Yr W9.heap.size (by omega)).mono (fun k hk => ⟨hk.1, by have := hk.2; omega⟩))
  · simp only [size_set]
    exact dN.stays _ _ _ _ _ _ ahw.out (fun k hk => hup J4.heap.size _ (by omega) hk) (Yr J4.heap.size (by omega))
end Go.Proofs.YtjaladhdnbhliaaGreatDoor
