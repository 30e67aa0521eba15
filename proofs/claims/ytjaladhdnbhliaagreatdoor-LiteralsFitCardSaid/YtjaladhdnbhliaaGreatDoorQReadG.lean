/- Parts. -/
import Derived.Test.YtjaladhdnbhliaaGreatDoorQReadPlain
import Derived.Test.YtjaladhdnbhliaaGreatDoorQLayIn
set_option maxHeartbeats 8000000
set_option maxRecDepth 100000
namespace Go.Proofs.YtjaladhdnbhliaaGreatDoor
open Go.Proofs.Tryz
open Go.RowKit Go.Shelf
def aaq(W:World)(b:Nat)(F:aV)(L:List Token)(d:Int):Prop:=
 ∃A c,Box W b 141 #[.slice A L.length c,.int .i64 d]∧SliceOf fG 2 24 W F (.slice A L.length c) L
structure Look(b:Nat)(F:aV)(w W:World)(L:List Token)(d:Int):Prop where
 C9:aaq W b F L d
 grew:Grew b w W (some b)
 foot:∀k,F k→k<b
 fine:∀t∈L,t.kind=2→jC t.text=true
section
variable {b:Nat} {F:aV} {w W W':World} {L L':List Token} {d d':Int}
theorem aaq.lt(h:aaq W b F L d):b<W.heap.size:=by
 obtain⟨A,c,hB,_⟩:=h;exact hB.lt
theorem aaq.kept(h:aaq W b F L d)(_hs:W.heap.size≤W'.heap.size)(hF:∀k,F k→k<b)(hk:∀k,k<W.heap.size→(F k∨k=b)→W'.heap[k]? =W.heap[k]?):aaq W' b F L d:=by
 have hlt:=h.lt;obtain⟨A,c,hB,hS⟩:=h;exact⟨A,c,hB.of_heap (hk b hlt (.inr rfl)),hS.stays fG.stays (fun _ h=>h) (dY fun k h=>hk k (Nat.lt_trans (hF k h) hlt) (.inl h))⟩
theorem Look.lt(h:Look b F w W L d):b<W.heap.size:=h.C9.lt
theorem Look.size(h:Look b F w W L d):w.heap.size≤W.heap.size:=h.grew.size
theorem Look.start(h:Look b F w W L d):Look b F W W L d:=⟨h.C9,Grew.Vr _ _ _ tC,h.foot,h.fine⟩
theorem Look.trans(h:Look b F w W L d)(k:Look b F W W' L' d'):Look b F w W' L' d':=⟨k.C9,h.grew.wE k.grew,k.foot,k.fine⟩
theorem Look.below(h:Look b F w W L d)(hb:Below W.heap.size W W'):Look b F w W' L d:=
 ⟨h.C9.kept hb.size h.foot fun k hk _=>hb.block k hk,h.grew.wE (Grew.of_below hb tC),h.foot,h.fine⟩
theorem Look.drew(h:Look b F w W L d):Look b F w W.drew L d:=h.below (by go_grown)
theorem Look.drewN(h:Look b F w W L d)(n:Nat):Look b F w (W.drewN n) L d:=h.below (below_drewN (Below.refl _ _) n)
theorem Look.alloc(h:Look b F w W L d)(o:Obj):Look b F w (W.alloc o) L d:=h.below ((Below.refl _ _).alloc (aJ _) o)
theorem Look.then_(h:Look b F w W L d){row:Option Nat}(hg:Grew w.heap.size W W' row)(hb:b<w.heap.size):Look b F w W' L d:=
 ⟨h.C9.kept hg.size h.foot fun k hk hk2=>hg.block k hk (fun e=>by
   have:=hg.low k e.symm;rcases hk2 with h2|h2
   ·have:=h.foot k h2;omega
   ·omega),h.grew.then_ hg,h.foot,h.fine⟩
theorem Look.set(h:Look b F w W L d){p:Addr}(hp:w.heap.size≤p.block)(hb:b<w.heap.size)(u:Value):Look b F w (W.setCell p u) L d:=
 ⟨h.C9.kept (by rw[size_set];exact aJ _) h.foot fun k _ hk=>Below.heap_setCell _ _ _ _ (fun e=>by
   rcases hk with hk|hk
   ·have:=h.foot k hk;omega
   ·omega),h.grew.aak hp u,h.foot,h.fine⟩
end
def acY(s:ByteArray)(L:List Token)(z:Bool)(L':List Token):Prop:=(z=false∧eX s L=none∧L'=L)∨(z=true∧eX s L=some L')
theorem acY.no{s:ByteArray}{L L':List Token}(h:acY s L false L'):eX s L=none∧L'=L:=h.elim (fun h=>h.2) (fun h=>by cases h.1)
theorem acY.yes{s:ByteArray}{L L':List Token}(h:acY s L true L'):eX s L=some L':=h.elim (fun h=>by cases h.1) (fun h=>h.2)
theorem SG{α:Type}{R:CR α}{sz jZ:Nat}{F:aV}{w:World}{A:Option Addr}{n c:Nat}{l:List α}(h:SliceOf R sz jZ w F (.slice A n c) l):n≤c∧c≤maxLen∧n=l.length:=by
 obtain⟨_,_,e,h1,h2,_⟩:=h;injection e with _ e2 e3
 subst e2;subst e3;exact⟨h1,h2,rfl⟩
theorem VO{w:World}{F:aV}{A:Option Addr}{n c:Nat}{t:Token}{L:List Token}(h:SliceOf fG 2 24 w F (.slice A n c) (t::L)):
  ∃p off,A=some ⟨p,off,none⟩∧F p∧I64 t.kind∧okS t.text∧w.cell? ⟨p,off,none⟩=some (.int .i64 t.kind)∧w.cell? ⟨p,off+1,none⟩=some (.string t.text):=by
 obtain⟨p,off,cs,rfl,hF,_,hR,hc⟩:=h.at_ (k:=0) (by simp);obtain⟨rfl,h1,h2⟩:cs= [.int .i64 t.kind,.string t.text]∧I64 t.kind∧okS t.text:=hR;exact⟨p,off,rfl,hF,h1,h2,by have:=hc 0 _ rfl;simpa using this,by have:=hc 1 _ rfl;simpa using this⟩
theorem aex{w:World}{F:aV}{p off n c:Nat}{t:Token}{L:List Token}(h:SliceOf fG 2 24 w F (.slice (some ⟨p,off,none⟩) (n+1) c) (t::L))(A:Option Addr)(hA:0<L.length→A=some ⟨p,off+2,none⟩):
  SliceOf fG 2 24 w F (.slice A L.length (c-1)) L:=by
 obtain⟨A',cap,e,h1,h2,h3,h3',h4⟩:=h;rw[List.length_cons]at e h1 h3 h3';injection e with e1 e2 e3
 subst e1;subst e3;obtain⟨b,o,e4,hF,hx⟩:=h4 (by simp);injection e4 with e4;injection e4 with e5 e6
 subst e5;subst e6;refine⟨A,c-1,rfl,by omega,by omega,by omega,by omega,fun hl=>⟨p,off+2,hA hl,hF,fun i x hi=>?_⟩⟩;obtain⟨cs,k1,k2,k3⟩:=hx (i+1) x (by simpa using hi);refine⟨cs,k1,k2,fun j u hj=>?_⟩;have:=k3 j u hj;rw[show off+(i+1)*2+j=off+2+i*2+j by omega]at this;exact this
theorem Look.tail{b:Nat}{F:aV}{w W:World}{t:Token}{L:List Token}{d:Int}{p off n c:Nat}(h:Look b F w W (t::L) d)(hB:Box W b 141 #[.slice (some ⟨p,off,none⟩) (n+1) c,.int .i64 d])
  (hS:SliceOf fG 2 24 W F (.slice (some ⟨p,off,none⟩) (n+1) c) (t::L)) (hn:L.length=n) (A:Option Addr) (hA:0<n→A=some ⟨p,off+2,none⟩):Look b F w (W.setCell ⟨b,0,none⟩ (.slice A n (c-1))) L d:=by
 refine⟨⟨A,c-1,?_,?_⟩,h.grew.wE (Grew.cell_ _ _ _),h.foot,fun x hx=>h.fine x (List.mem_cons_of_mem _ hx)⟩
 ·have:=hB.put 0 (.slice A n (c-1));rw[hn];simpa using this
 ·exact(aex hS A (by rw[hn];exact hA)).stays fG.stays (fun _ h=>h) ((Keeps.refl _ _).setCell (fun hF=>Nat.lt_irrefl _ (h.foot _ hF)) _)
def acf(b:Nat)(F:aV)(w:World)(d:Int)(s:ByteArray)(L:List Token)(e:Ending)(w':World):Prop:=∃z L',e=.returned (.bool z)∧acY s L z L'∧Look b F w w' L' d
theorem take_any{b:Nat}{F:aV}{w W:World}{L:List Token}{d:Int}(h:Look b F w W L d)(s:ByteArray):
  Calls prog 195 #[.pointer (some ⟨b,0,none⟩),.string s] W fun e w'=>acf b F w d s L e w':=by
 have hlt:=h.lt;cases L with
 |nil=>
  obtain⟨A,c,hB,hS⟩:=h.C9;have x0:=hB.at_ 0 _ rfl;have x1:=hB.at_ 1 _ rfl;have HH:=ah h;clear h;clear hS hB;go_enter func195,ntmps195;go_wp2_with fail;go_ret;exact⟨false,[],rfl,.inl ⟨rfl,rfl,rfl⟩,HH.out⟩
 |cons t r=>
  obtain⟨A,c,hB,hS⟩:=h.C9;obtain⟨n,hn⟩:∃n,r.length=n:=⟨_,rfl⟩;rw[List.length_cons,hn]at hB hS;obtain⟨p,off,rfl,ZN,hk,htx,c0,c1⟩:=VO hS;have hcap:=(SG hS).1;have hnz:((n:Int)+1==0)=false:=by simp;omega
  have h1n:(1:Int)≤(n:Int)+1:=by omega
  have hpb:p≠b:=fun e=>by have:=h.foot p ZN;omega
  obtain⟨kd,tx⟩:=t;dsimp only at*;have x0:=hB.at_ 0 _ rfl;have x1:=hB.at_ 1 _ rfl;have g0:=hB.free 0;have g1:=hB.free 1;obtain⟨HH,HB,HS,HN⟩:=au h hB hS hn;clear h hB hS hn;clear ZN;cases hq:(kd==4)
  ·have hqz:(kd !=4)=true:=by simp[bne,hq]
   have HQ:=Lib.hid hq;clear hq;go_enter func195,ntmps195;go_wp2_with fail;go_ret;refine⟨false,_,rfl,.inl ⟨rfl,?_,rfl⟩,HH.out⟩;rw[mJ];rw[if_neg];intro h;have:=HQ.out;simp at this;exact this h.1
  ·have hqz:(kd !=4)=false:=by simp[bne,hq]
   have HQ:=Lib.hid hq;clear hq;cases ht:(tx.toList==s.toList)
   ·have htz:(tx.toList !=s.toList)=true:=by simp only[bne,ht];rfl
    have HT:=ah ht;go_enter func195,ntmps195;go_wp2_with fail;go_ret;refine⟨false,_,rfl,.inl ⟨rfl,?_,rfl⟩,HH.out⟩;rw[mJ];rw[if_neg];intro h;have e:=HT.out;have h2:=h.2;unfold iT at h2;dsimp only at h2;rw[e]at h2;cases h2
   ·have htz:(tx.toList !=s.toList)=false:=by simp only[bne,ht];rfl
    have HT:=ah ht;go_enter func195,ntmps195;go_wp2_with fail;all_goals
     go_ret;refine⟨true,r,rfl,.inr ⟨rfl,?_⟩,?_⟩
     ·rw[mJ,if_pos ⟨by simpa using HQ.out,HT.out⟩]
     ·first
       |exact Look.tail HH.out HB.out HS.out HN.out _ (fun _=>rfl)
       |((have hc1:c=1:=by assumption);subst hc1;exact Look.tail HH.out HB.out HS.out HN.out _ (fun h=>by omega))
def ahz(L:List Token)(t:Token)(L':List Token):Prop:=(L= []∧t=⟨0,mt⟩∧L'= [])∨L=t::L'
def ace(b:Nat)(F:aV)(w:World)(d:Int)(L:List Token)(e:Ending)(w':World):Prop:=
 ∃t L',e=.returned (.agg #[.int .i64 t.kind,.string t.text])∧ahz L t L'∧I64 t.kind∧okS t.text∧Look b F w w' L' d
theorem next_any{b:Nat}{F:aV}{w W:World}{L:List Token}{d:Int}(h:Look b F w W L d)(hb:b<w.heap.size):
  Calls prog 123 #[.pointer (some ⟨b,0,none⟩)] W (ace b F w d L):=by
 have hlt:=h.lt;have hws:=h.size;cases L with
 |nil=>
  have HH:=ah h;clear h;go_enter func123,ntmps123;go_upto_region 1 with fail
  have hBr:=Box.made W 182 #[.int .i64 0,.string ⟨#[]⟩];have hbr:Below W.heap.size W (W.alloc (.cells #[.int .i64 0,.string ⟨#[]⟩] 182)):=by go_grown
  have kJ:(W.alloc (.cells #[.int .i64 0,.string ⟨#[]⟩] 182)).heap.size=W.heap.size+1:=by simp
  generalize W.alloc (.cells #[.int .i64 0,.string ⟨#[]⟩] 182)=W1 at hBr hbr kJ⊢;have hL:=HH.out.below hbr;obtain⟨A,c,hB,hS⟩:=hL.C9;have x0:=hB.at_ 0 _ rfl;have x1:=hB.at_ 1 _ rfl;have y0:=hBr.at_ 0 _ rfl;have y1:=hBr.at_ 1 _ rfl;have g0:=hBr.free 0;have g1:=hBr.free 1;obtain⟨HL,Eb⟩:=aj hL hBr;clear hL hBr;clear hS hB kJ hbr;go_wp2_with fail;exact bodyPost_ret (v:=.agg #[.int .i64 0,.string mt]) (by simp[results,results123,go_sem,y0,y1,mt]) rfl ⟨⟨0,mt⟩,[],rfl,.inl ⟨rfl,rfl,rfl⟩,⟨by decide,by decide⟩,by unfold okS mt;decide,
   (HL.out.set (p:=⟨W.heap.size,0,none⟩) hws hb _).set (p:=⟨W.heap.size,1,none⟩) hws hb _⟩
 |cons t r=>
  have HH:=ah h;clear h;go_enter func123,ntmps123;go_upto_region 1 with fail
  have hBr:=Box.made W 182 #[.int .i64 0,.string ⟨#[]⟩];have hbr:Below W.heap.size W (W.alloc (.cells #[.int .i64 0,.string ⟨#[]⟩] 182)):=by go_grown
  have kJ:(W.alloc (.cells #[.int .i64 0,.string ⟨#[]⟩] 182)).heap.size=W.heap.size+1:=by simp
  generalize W.alloc (.cells #[.int .i64 0,.string ⟨#[]⟩] 182)=W1 at hBr hbr kJ⊢;have hL:=HH.out.below hbr;have hne:W.heap.size≠b:=by omega
  obtain⟨A,c,hB,hS⟩:=hL.C9;obtain⟨n,hn⟩:∃n,r.length=n:=⟨_,rfl⟩;rw[List.length_cons,hn]at hB hS;obtain⟨p,off,rfl,ZN,hk,htx,c0,c1⟩:=VO hS;have hcap:=(SG hS).1;have hnz:((n:Int)+1==0)=false:=by simp;omega
  have h1n:(1:Int)≤(n:Int)+1:=by omega
  obtain⟨kd,tx⟩:=t;dsimp only at*;have hrt:W.heap.size≠W1.heap.size:=by omega
  clear kJ;have x0:=hB.at_ 0 _ rfl;have x1:=hB.at_ 1 _ rfl;have g0:=hB.free 0;have g1:=hB.free 1;obtain⟨HL,Eb,HN,HB,HS⟩:=ay hL hBr hn hB hS;clear hL hBr hn hB hS;clear ZN hbr;go_upto_region 4 with fail
  have hBt:=Box.made W1 182 #[.int .i64 kd,.string tx];have hbt:Below W1.heap.size W1 (W1.alloc (.cells #[.int .i64 kd,.string tx] 182)):=by go_grown
  have pW:(W1.alloc (.cells #[.int .i64 kd,.string tx] 182)).heap.size=W1.heap.size+1:=by simp
  generalize W1.alloc (.cells #[.int .i64 kd,.string tx] 182)=W2 at hBt hbt pW⊢;have hL2:=HL.out.below hbt;have hB2:=HB.out.later hbt HB.out.lt;have hR2:=Eb.out.later hbt Eb.out.lt;have hS2:=HS.out.stays fG.stays (fun _ h=>h) (Keeps.of_below hbt (fun k hk=>Nat.lt_trans (HL.out.foot k hk) HL.out.lt));clear x0 x1 g0 g1 c0 c1;have x0:=hB2.at_ 0 _ rfl;have x1:=hB2.at_ 1 _ rfl;have g0:=hB2.free 0;have g1:=hB2.free 1;have y0:=hBt.at_ 0 _ rfl;have y1:=hBt.at_ 1 _ rfl;have z0:=hR2.at_ 0 _ rfl;have z1:=hR2.at_ 1 _ rfl;have q0:=hR2.free 0;have q1:=hR2.free 1;have hn1:W1.heap.size≠b:=by have:=HL.out.lt;omega
  obtain⟨HL2,HB2,HS2,HK,BK⟩:=ay hL2 hB2 hS2 hk htx;clear hL2 hB2 hS2 hk htx;clear hBt hbt HB HS HL Eb hR2;go_wp2_with fail;all_goals
   refine bodyPost_ret (v:=.agg #[.int .i64 kd,.string tx]) (by simp[results,results123,go_sem,z0,z1]) rfl ?_;refine⟨⟨kd,tx⟩,r,rfl,.inr rfl,HK.out,BK.out,?_⟩;refine Look.set (p:=⟨W.heap.size,1,none⟩) (Look.set (p:=⟨W.heap.size,0,none⟩) ?_ hws hb _) hws hb _;first
    |exact Look.tail HL2.out HB2.out HS2.out HN.out _ (fun _=>rfl)
    |(have hc1:c=1:=(by assumption);subst hc1;exact Look.tail HL2.out HB2.out HS2.out HN.out _ (fun h=>by omega))
theorem lD{b:Nat}{F:aV}{w W:World}{L:List Token}{d:Int}(h:Look b F w W L d)(s:ByteArray):
  Calls prog 125 #[.pointer (some ⟨b,0,none⟩),.string s] W fun e w'=>∃L',(e=.returned (.tuple #[])∧eX s L=some L'∧Look b F w w' L' d)∨(e=.panicked [iU 4]∧eX s L=none∧Look b F w w' L' d):=by
 have ht:=take_any h s;have HT:=ah ht;clear ht;clear h;go_enter func125,ntmps125;go_wp2_with fail;refine HT.out.mono ?_;rintro e w' ⟨z,L',rfl,hT,hL⟩;cases z with
 |false=>
  have hT:=hT.no;obtain⟨HT2,HL⟩:=aj hT hL;clear hT hL;go_wp2_with(first|(go_at_call 71;(with_reducible refine(bF _ _).mono ?_);rintro e w' ⟨rfl,rfl⟩)|(go_at_call 71;(with_reducible refine(bQ _ _).mono ?_);rintro e w' ⟨rfl,rfl⟩));exact⟨rfl,L',.inr ⟨rfl,HT2.out.1,HL.out⟩⟩
 |true=>
  have hT:=hT.yes;obtain⟨HT2,HL⟩:=aj hT hL;clear hT hL;go_wp2_with(first|(go_at_call 71;(with_reducible refine(bF _ _).mono ?_);rintro e w' ⟨rfl,rfl⟩)|(go_at_call 71;(with_reducible refine(bQ _ _).mono ?_);rintro e w' ⟨rfl,rfl⟩))
  go_end0
  exact⟨L',.inl ⟨rfl,HT2.out,HL.out⟩⟩
def JG{α:Type}(V:World→aV→Value→α→Prop)(b:Nat)(F:aV)(w W:World)(d:Int)(r:Except Int (α×List Token))(e:Ending)(W':World):Prop:=
 (∃x L' v,r=.ok (x,L')∧e=.returned v∧V W' (fresh W.heap.size W'.heap.size) v x∧Look b F w W' L' d)∨(∃k L' d',r=.error k∧e=.panicked [iU k]∧Look b F w W' L' d'∧d≤d'∧d'≤d+1)
def aj8:World→aV→Value→ByteArray→Prop:=fun _ _ v s=>v=.string s∧okS s
def aj9:World→aV→Value→Unit→Prop:=fun _ _ v _=>v=.tuple #[]
def zA{α:Type}(R:CR α):World→aV→Value→α→Prop:=fun w F v x=>∃cs,v=.agg cs.toArray∧R w F cs x
theorem name_any{b:Nat}{F:aV}{w W:World}{L:List Token}{d:Int}(h:Look b F w W L d)(hb:b<w.heap.size):
  Calls prog 124 #[.pointer (some ⟨b,0,none⟩)] W (JG aj8 b F w W d (fJ L)):=by
 have ht:=next_any h hb;obtain⟨R,hR⟩:∃R,fJ L=R:=⟨_,rfl⟩;rw[hR];have HR:=ah hR;clear hR;have hws:=h.size;have HT:=ah ht;clear ht;clear h;go_enter func124,ntmps124;go_wp2_with fail;refine HT.out.mono ?_;rintro e W1 ⟨t,L',rfl,hN,hk,htx,hL⟩;have hid:=fun U=>iV t.text U htx
 obtain⟨z,hz⟩:∃z,(aX t.text)=z:=⟨_,rfl⟩;rw[hz]at hid;have Z:=Lib.hid hz;clear hz;obtain⟨TI,HN,BK⟩:=ak hid hN htx;clear hid hN htx;go_upto_region 2 with fail
 have hBt:=Box.made W1 182 #[.int .i64 t.kind,.string t.text];have hbt:Below W1.heap.size W1 (W1.alloc (.cells #[.int .i64 t.kind,.string t.text] 182)):=by go_grown
 have pW:(W1.alloc (.cells #[.int .i64 t.kind,.string t.text] 182)).heap.size=W1.heap.size+1:=by simp
 generalize W1.alloc (.cells #[.int .i64 t.kind,.string t.text] 182)=W2 at hBt hbt pW⊢;have hL2:=hL.below hbt;have x0:=hBt.at_ 0 _ rfl;have x1:=hBt.at_ 1 _ rfl;obtain⟨HL,HB⟩:=aj hL2 hBt;clear hL2 hBt;clear hbt pW hL;have hbad:¬(t.kind=1∧z=true)→R=.error 4:=fun hn=>by
  rw[←HR.out];rcases HN.out with ⟨rfl,_,_⟩|rfl
  ·rfl
  ·rw[kT,if_neg (by rw[Z.out];exact hn)]
 have hgood:(t.kind=1∧z=true)→R=.ok (t.text,L'):=fun hn=>by
  rw[←HR.out];rcases HN.out with ⟨rfl,rfl,_⟩|rfl
  ·exact absurd hn.1 (by decide)
  ·rw[kT,if_pos (by rw[Z.out];exact hn)]
 obtain⟨HBAD,jk⟩:=aj hbad hgood;clear hbad hgood;cases hq:(t.kind==1)with
 |false=>
  have HQ:=ah hq;go_wp2_with(first|(go_at_call 71;(with_reducible refine(bF _ _).mono ?_);rintro e w' ⟨rfl,rfl⟩)|(go_at_call 71;(with_reducible refine(bQ _ _).mono ?_);rintro e w' ⟨rfl,rfl⟩));exact⟨rfl,.inr ⟨4,L',d,HBAD.out (fun h=>by have:=HQ.out;simp at this;exact this h.1),rfl,HL.out,Int.le_refl _,by omega⟩⟩
 |true=>
  have HQ:=ah hq;cases z with
  |false=>
   go_wp2_with(first|(go_at_call 61;(with_reducible refine(TI.out _).mono ?_);rintro e W3 ⟨rfl,hb3⟩;have BP:=Lib.hid (HL.out.below hb3);clear hb3)|(go_at_call 71;(with_reducible refine(bQ _ _).mono ?_);rintro e w' ⟨rfl,rfl⟩));exact⟨rfl,.inr ⟨4,L',d,HBAD.out (fun h=>by cases h.2),rfl,BP.out,Int.le_refl _,by omega⟩⟩
  |true=>
   go_wp2_with(first|(go_at_call 61;(with_reducible refine(TI.out _).mono ?_);rintro e W3 ⟨rfl,hb3⟩;have BP:=Lib.hid (HL.out.below hb3);have hB3:=HB.out.later hb3 HB.out.lt;have HB3:=Lib.hid hB3;have y1:=hB3.at_ 1 _ rfl;clear hb3 hB3)|(go_at_call 71;(with_reducible refine(bF _ _).mono ?_);rintro e w' ⟨rfl,rfl⟩));go_ret;exact .inl ⟨t.text,L',_,jk.out ⟨by simpa using HQ.out,(by first|rfl|trivial)⟩,rfl,⟨rfl,BK.out⟩,BP.out⟩
abbrev TR(W:World)(q b:Nat):Prop:=Box W q 139 #[.pointer (some ⟨b,0,none⟩)]
theorem Look.depth{b:Nat}{F:aV}{w W:World}{L:List Token}{d:Int}(h:Look b F w W L d)(d':Int):Look b F w (W.setCell ⟨b,1,none⟩ (.int .i64 d')) L d':=by
 obtain⟨A,c,hB,hS⟩:=h.C9;refine⟨⟨A,c,?_,hS.stays fG.stays (fun _ h=>h) ((Keeps.refl _ _).setCell (fun hF=>Nat.lt_irrefl _ (h.foot _ hF)) _)⟩,h.grew.wE (Grew.cell_ _ _ _),h.foot,h.fine⟩;have:=hB.put 1 (.int .i64 d');simpa using this
theorem Look.at1{b:Nat}{F:aV}{w W:World}{L:List Token}{d:Int}(h:Look b F w W L d):W.cell? ⟨b,1,none⟩=some (.int .i64 d):=by
 obtain⟨A,c,hB,_⟩:=h.C9;exact hB.at_ 1 _ rfl
theorem Look.agm{b:Nat}{F:aV}{w W:World}{L:List Token}{d:Int}(h:Look b F w W L d)(i:Nat):W.frozen? ⟨b,i,none⟩=false:=by
 obtain⟨A,c,hB,_⟩:=h.C9;exact hB.free i
def X4(b:Nat)(F:aV)(w W:World)(L:List Token)(d:Int)(e:Ending)(w':World):Prop:=
 (d<40∧∃q,e=.returned (.func (.func 247) #[] #[.pointer (some ⟨q,0,none⟩)])∧TR w' q b∧W.heap.size≤q∧Look b F w w' L (d+1))∨(40≤d∧e=.panicked [iU 1]∧Look b F w w' L (d+1))
theorem xP{b:Nat}{F:aV}{w W:World}{L:List Token}{d:Int}(h:Look b F w W L d)(h0:0≤d)(h1:d≤1000):
  Calls prog 196 #[.pointer (some ⟨b,0,none⟩)] W (X4 b F w W L d):=by
 have hmf:∀(fn:Fn) (first cap:Array Value) (w:World),(Instr.makeFunc fn first cap).run prog w=.ok (.func fn first cap) w:=fun _ _ _ _=>rfl
 have HH:=ah h;clear h;go_enter func196,ntmps196;go_upto_region 1 with fail
 have Yl:=Box.made W 139 #[.pointer (some ⟨b,0,none⟩)];have hbq:Below W.heap.size W (W.alloc (.cells #[.pointer (some ⟨b,0,none⟩)] 139)):=by go_grown
 have UM:(W.alloc (.cells #[.pointer (some ⟨b,0,none⟩)] 139)).heap.size=W.heap.size+1:=by simp
 generalize W.alloc (.cells #[.pointer (some ⟨b,0,none⟩)] 139)=W1 at Yl hbq UM⊢;have hL:=HH.out.below hbq;have hne:W.heap.size≠b:=by have:=HH.out.lt;omega
 have x1:=hL.at1;have g1:=hL.agm 1;have y0:=Yl.at_ 0 _ rfl;obtain⟨HL,HB⟩:=aj hL Yl;clear hL Yl;clear hbq UM
 by_cases hd:d<40
 ·have hdz:d+1≤40:=by omega
  go_wp2_with(first|(go_at_call 71;(with_reducible refine(bF _ _).mono ?_);rintro e w' ⟨rfl,rfl⟩));go_ret;exact .inl ⟨hd,_,rfl,HB.out.far (by simpa using hne) _,aJ _,HL.out.depth _⟩
 ·have hdz:¬d+1≤40:=by omega
  go_wp2_with(first|(go_at_call 71;(with_reducible refine(bQ _ _).mono ?_);rintro e w' ⟨rfl,rfl⟩));exact⟨rfl,.inr ⟨by omega,rfl,HL.out.depth _⟩⟩
theorem Ci{b q:Nat}{F:aV}{w W:World}{L:List Token}{d:Int}(u:FrameMode)(h:Look b F w W L d)(hq:TR W q b)(h0:0≤d)(h1:d≤1000):
  CallsD prog 247 #[.pointer (some ⟨q,0,none⟩)] u W fun e u' w'=>u'=u∧(e=.returned (.tuple #[])∧w'=W.setCell ⟨b,1,none⟩ (.int .i64 (d-1))):=by
 have x1:=h.at1;have g1:=h.agm 1;have y0:=hq.at_ 0 _ rfl;clear h hq
 go_enter_d func247,ntmps247
 go_wp2
 go_end0
 exact⟨rfl,rfl⟩
theorem Ul{fn:Go.Func}{tmps:Array Value}{R:Ending→World→Prop}{b q:Nat}{F:aV}{w W:World}{L:List Token}{d k:Int}(h:Look b F w W L d)(hq:TR W q b)(h0:0≤d)(h1:d≤1000)
  (hr:Look b F w (W.setCell ⟨b,1,none⟩ (.int .i64 (d-1))) L (d-1)→R (.panicked [iU k]) (W.setCell ⟨b,1,none⟩ (.int .i64 (d-1)))):
  Leaves prog fn tmps R [{ target:=.fn (.func 247) #[.pointer (some ⟨q,0,none⟩)],args:= #[] }] (.panicking [iU k]) W:=by
 refine leaves_cons (f:=247) (args:= #[.pointer (some ⟨q,0,none⟩)]) (by simp) (by simp[go_sem]) ?_;refine(Ci _ h hq h0 h1).mono ?_;rintro e u' w' ⟨rfl,rfl,rfl⟩;exact hr (h.depth _)
theorem wS{fn:Go.Func}{tmps:Array Value}{R:Ending→World→Prop}{b q:Nat}{F:aV}{w W:World}{L:List Token}{d:Int}(h:Look b F w W L d)(hq:TR W q b)(h0:0≤d)(h1:d≤1000)
  (hr:Look b F w (W.setCell ⟨b,1,none⟩ (.int .i64 (d-1))) L (d-1)→∃v,(results fn tmps).run prog (W.setCell ⟨b,1,none⟩ (.int .i64 (d-1)))=.ok v (W.setCell ⟨b,1,none⟩ (.int .i64 (d-1)))∧R (.returned v) (W.setCell ⟨b,1,none⟩ (.int .i64 (d-1)))):
  Leaves prog fn tmps R [{ target:=.fn (.func 247) #[.pointer (some ⟨q,0,none⟩)],args:= #[] }] .returning W:=by
 refine leaves_cons (f:=247) (args:= #[.pointer (some ⟨q,0,none⟩)]) (by simp) (by simp[go_sem]) ?_;refine(Ci _ h hq h0 h1).mono ?_;rintro e u' w' ⟨rfl,rfl,rfl⟩;exact hr (h.depth _)
structure Room(b:Nat)(F:aV)(W:World)(rt:TypeId)(rc:Array Value)(q:Nat)(W':World)(L:List Token)(d:Int):Prop where
 look:Look b F W W' L d
 res:Box W' W.heap.size rt rc
 held:TR W' q b
 far:W.heap.size<q
 lt:b<W.heap.size
section
variable {b:Nat} {F:aV} {W:World} {rt:TypeId} {rc:Array Value} {q:Nat} {W' W2:World} {L L2:List Token} {d d2:Int}
theorem Room.go(h:Room b F W rt rc q W' L d)(k:Look b F W' W2 L2 d2):Room b F W rt rc q W2 L2 d2:=
 ⟨h.look.trans k,k.grew.jm h.res (by have:=h.lt;omega),k.grew.jm h.held (by have:=h.lt;have:=h.far;omega),h.far,h.lt⟩
theorem Room.below(h:Room b F W rt rc q W' L d)(hb:Below W'.heap.size W' W2):Room b F W rt rc q W2 L d:=
 ⟨h.look.below hb,h.res.later hb h.res.lt,h.held.later hb h.held.lt,h.far,h.lt⟩
theorem Room.set(h:Room b F W rt rc q W' L d)(i:Nat)(u:Value):Room b F W rt (rc.setIfInBounds i u) q (W'.setCell ⟨W.heap.size,i,none⟩ u) L d:=
 ⟨h.look.set (aJ _) h.lt u,h.res.put i u,h.held.far (by have:=h.far;show q≠W.heap.size;omega) u,h.far,h.lt⟩
theorem Room.start(h:Room b F W rt rc q W' L d):Look b F W' W' L d:=h.look.start
theorem Room.out{α:Type}{V:World→aV→Value→α→Prop}{fn:Go.Func}{tmps:Array Value}{r:Except Int (α×List Token)}{d0 k:Int}(h:Room b F W rt rc q W' L d)(hr:r=.error k)(h0:0≤d0)(h1:d0+1≤d)(h2:d≤d0+2)(h3:d0≤100):
  Leaves prog fn tmps (JG V b F W W d0 r) [{ target:=.fn (.func 247) #[.pointer (some ⟨q,0,none⟩)],args:= #[] }] (.panicking [iU k]) W':=
 Ul h.look h.held (by omega) (by omega) fun hl=>.inr ⟨k,L,d-1,hr,rfl,hl,by omega,by omega⟩
end
def Ei(b:Nat)(F:aV)(f:Nat):Prop:=∀(W:World) (L:List Token) (d:Int),Look b F W W L d→L.length≤200→d+f=40→0≤d→
 Calls prog 197 #[.pointer (some ⟨b,0,none⟩)] W (JG (zA dN) b F W W d (bV f L))
def SlV{α:Type}(R:CR α)(sz jZ:Nat):World→aV→Value→List α→Prop:=fun w F v l=>SliceOf R sz jZ w F v l
theorem aaj{w:World}{F:aV}{cs:List Value}{x:Ex}(h:dN w F cs x):cs.length=5:=by
 obtain⟨A,c,rfl⟩:=dN.form h
 rfl
theorem Qb{w:World}{F:aV}{cs:List Value}{x:Ex}(h:dN w F cs x):∀u∈cs,u.oneCell'=true:=by
 obtain⟨A,c,rfl⟩:=dN.form h;intro u hu;simp only[List.mem_cons,List.not_mem_nil,or_false]at hu;rcases hu with rfl|rfl|rfl|rfl|rfl<;>rfl
theorem aZ.one{α:Type}{R:CR α}{sz base g:Nat}{e:TypeId}{F:aV}{w:World}{cs:List Value}{x:α}(hB:Box w g e cs.toArray)(hg:base≤g)(hc:cs.length=sz)(hR:R w F cs x)(hF:∀k,F k→k<w.heap.size∧k≠g):
  aZ R sz e base w F (.slice (some ⟨g,0,none⟩) 1 1) [x]:=
 ⟨cs,⟨by simp[hc],.inr ⟨g,1,cs.toArray,rfl,hg,hB,aJ _,by unfold maxLen;decide,by simp[hc],by rw[List.length_singleton,Nat.one_mul,←hc];simp⟩⟩,kE.one hc hR,fun k hk=>⟨(hF k hk).1,fun e=>(hF k hk).2 (by injection e)⟩⟩
theorem Qc{b:Nat}{F:aV}{f:Nat}(hx:Ei b F f)(W:World)(L:List Token)(d:Int)(s:ByteArray)(h:Look b F W W L d)(hl:L.length≤200)(hd:d+f=40)(h0:0≤d):
  Calls prog 281 #[.pointer (some ⟨b,0,none⟩),.string s] W (JG (SlV dN 5 72) b F W W d (rV (bV f) s L)):=by
 obtain⟨R,hR⟩:∃R,rV (bV f) s L=R:=⟨_,rfl⟩;rw[hR];have hbl:=h.lt;have hcx:=hx W L d h hl hd h0;obtain⟨HX,HR,HH,xI⟩:=au hx hR h hcx;clear hx hR h hcx;go_enter func281,ntmps281;go_wp2_with fail;refine xI.out.mono ?_;rintro e W1 (⟨x,L1,v,hx1,rfl,⟨cs,rfl,hX⟩,hl1⟩|⟨k,L1,d1,hx1,rfl,hl1,h1,h2⟩);rotate_left
 ·have hx':R=.error k:=by rw[←HR.out];exact bM hx1
  obtain⟨Ed,HX1⟩:=aj hl1 hx';clear hl1 hx';go_wp2_with fail;exact⟨rfl,.inr ⟨k,L1,d1,HX1.out,rfl,Ed.out,h1,h2⟩⟩
 have hs1:=ji f _ _ _ hx1;have hR1:R=aO (fun l=>lS (bV f) l.length [x] l) (fun xs=>aO (dG s) fun _=>bJ xs) L1:=by rw[←HR.out];exact bI hx1
 obtain⟨M,hM⟩:∃M,lS (bV f) L1.length [x] L1=M:=⟨_,rfl⟩;have hme:∀k,M=.error k→R=.error k:=fun k hk=>by rw[hR1];exact bM (hM.trans hk)
 have hmo:∀xs L2,M=.ok (xs,L2)→R=aO (dG s) (fun _=>bJ xs) L2:=fun xs L2 hk=>by rw[hR1];exact bI (hM.trans hk)
 obtain⟨A,c,rfl⟩:=dN.form hX;obtain⟨HME,HMO,HM,tN,Ed⟩:=ay hme hmo hM hX hl1;clear hme hmo hM hX hl1;clear hR1 hx1;go_wp2_with fail;have hBb:=Box.made W1 81 #[.int .i64 x.kind,.int .i64 x.n,.string x.bT,.string x.s,.slice A x.args.length c];have hbb:Below W1.heap.size W1 (W1.alloc (.cells #[.int .i64 x.kind,.int .i64 x.n,.string x.bT,.string x.s,.slice A x.args.length c] 81)):=by go_grown
 have hzb:(W1.alloc (.cells #[.int .i64 x.kind,.int .i64 x.n,.string x.bT,.string x.s,.slice A x.args.length c] 81)).heap.size=W1.heap.size+1:=by simp
 generalize W1.alloc (.cells #[.int .i64 x.kind,.int .i64 x.n,.string x.bT,.string x.s,.slice A x.args.length c] 81)=W2 at hBb hbb hzb⊢;have hw1:=Ed.out.size;have hO:aZ dN 5 81 W.heap.size W2 (fresh W.heap.size W1.heap.size) (.slice (some ⟨W1.heap.size,0,none⟩) 1 1) [x]:=
  aZ.one (cs:= [.int .i64 x.kind,.int .i64 x.n,.string x.bT,.string x.s,.slice A x.args.length c]) hBb hw1 rfl (dN.stays.later tN.out hbb cZ) (fun k hk=>⟨by have:=hk.2;have:=hbb.size;omega,by have:=hk.2;omega⟩)
 have hL2:=Ed.out.below hbb;obtain⟨HO,HL2⟩:=aj hO hL2;clear hO hL2;clear hBb hbb hzb;go_loopg [5] L1.length (fun gg s5 wr=>∃(m c:Nat) (A:Option Addr) (xs:List Ex) (L2:List Token) (G:aV),s5=.slice A xs.length c∧L2.length≤gg∧L2.length≤m∧xs.length+L2.length≤201∧Aside (M=lS (bV f) m xs L2)∧Aside (Look b F W wr L2 d)∧
  Aside (aZ dN 5 81 W.heap.size wr G (.slice A xs.length c) xs)∧Aside (∀k,G k→W.heap.size≤k))
 case atStart=>exact⟨L1.length,1,_,[x],L1,_,rfl,aJ _,aJ _,by rw[List.length_singleton];omega,aside HM.out.symm,aside HL2.out,aside HO.out,aside (fun k hk=>hk.1)⟩
 case round=>
  obtain⟨m,c3,A3,xs,L2,G,rfl,hg,hm,ahG,hM,hLk,hO3,hG⟩:=hrel;obtain⟨W3,rfl⟩:∃W,W=wr:=⟨_,rfl⟩;have htk:=take_any hLk.out.start nS;have qR:=ah htk;clear htk;go_wp2_with fail;refine qR.out.mono ?_;rintro e W4 ⟨z,L4,rfl,hT,hl4⟩;have qh:=hLk.out.trans hl4;have hO4:=hO3.out.read dN.stays hl4.grew hbl hG.out;cases z with
  |true=>
   have hT:=hT.yes;have ht4:=take_len hT;have hcx:=HX.out W4 L4 d hl4.start (by omega) hd h0;have hrow:∀k,(Value.slice A3 xs.length c3).ownBlock=some k→k<W4.heap.size:=fun k hk=>(hO4.row hk).2
   obtain⟨HT,agU,zl,AZ,zF,Tc,HG⟩:=aB hT hcx hO4 qh hrow hM hG;clear hT hcx hO4 qh hrow hM hG;clear hl4 hO3 hLk qR;go_wp2_with fail;refine agU.out.mono ?_;rintro e W5 (⟨y,L5,v,hx1,rfl,⟨cs,rfl,hY⟩,hl5⟩|⟨k,L5,d5,hx1,rfl,hl5,h1,h2⟩)
   ·have hs5:=ji f _ _ _ hx1;have hm2:=Tc.out.trans (afG HT.out hm hx1);have sF:=zl.out.read dN.stays hl5.grew hbl HG.out;have oC:=AZ.out.trans hl5;have h45:=hl5.size;obtain⟨A5,c5,rfl⟩:=dN.form hY;have hw4:=AZ.out.size;obtain⟨Gi,uZ,xJ,vT⟩:=au hm2 hY sF oC;clear hm2 hY sF oC;clear hl5 hx1 AZ zl;go_wp2_with(at_builtin;go_must((refine bH dN.stays (.agg #[.int .i64 0,.int .i64 0,.string ⟨#[]⟩,.string ⟨#[]⟩,.slice none 0 0]) [.int .i64 y.kind,.int .i64 y.n,.string y.bT,.string y.s,.slice A5 y.args.length c5] y rfl rfl underlying79 (bytes:=72) (by kernel_rfl) xJ.out rfl rfl (by decide) rfl rfl uZ.out (Qb uZ.out) (fun k hk=>⟨hk.2,fun e=>by have:=zF.out k e.symm;have:=hk.1;omega⟩) (by unfold maxLen;omega) (by omega) (by omega) ?_);(intro A6 c6 W7 mV hgr _;have Jt:=Lib.hid (vT.out.then_ hgr hbl);have uq:=Lib.hid mV;clear mV hgr)));go_roundg L5.length
    case measure=>have:=take_len HT.out;omega
    case rel=>
     have:=take_len HT.out;exact⟨m-1,c6,A6,xs++ [y],L5,(fun k=>G k∨fresh W4.heap.size W5.heap.size k),by simp,aJ _,by omega,by rw[List.length_append,List.length_singleton];omega,aside Gi.out,aside Jt.out,aside (by simpa using uq.out),aside (fun k hk=>hk.elim (HG.out k) (fun h=>by have:=h.1;omega))⟩
   ·have hx':R=.error k:=HME.out _ (Tc.out.trans (aeb HT.out hm hx1));have oC:=AZ.out.trans hl5;obtain⟨vT,Eo⟩:=aj oC hx';clear oC hx';clear hl5 hx1;go_wp2_with fail;exact⟨rfl,.inr ⟨k,L5,d5,Eo.out,rfl,vT.out,h1,h2⟩⟩
  |false=>
   obtain⟨hT,rfl⟩:=hT.no;have hx':=HMO.out _ _ (hM.out.trans (PW hT));have hms:=lD hl4.start s;obtain⟨QD,qj,AZ,zl⟩:=au hx' hms qh hO4;clear hx' hms qh hO4;clear hl4 hO3 hLk qR hT hM;go_wp2_with fail;refine qj.out.mono ?_;rintro e W5 ⟨L5,(⟨rfl,uJ,hl5⟩|⟨rfl,uJ,hl5⟩)⟩
   ·have hx5:R=.ok (xs,L5):=QD.out.trans (bI (iH uJ));have sF:=zl.out.read dN.stays hl5.grew hbl hG.out;have oC:=AZ.out.trans hl5;obtain⟨Eo,xJ,vT⟩:=ak hx5 sF oC;clear hx5 sF oC;clear hl5 uJ;go_wp2_with fail;go_ret;exact .inl ⟨xs,L5,_,Eo.out,rfl,xJ.out.slice dN.stays (fun k hk=>⟨hG.out k hk,(xJ.out.foot hk).1⟩) (fun k h1 h2=>⟨h1,h2⟩) (by omega) (by omega),vT.out⟩
   ·have hx5:R=.error 4:=QD.out.trans (bM (jy uJ));have oC:=AZ.out.trans hl5;obtain⟨Eo,vT⟩:=aj hx5 oC;clear hx5 oC;clear hl5 uJ;go_wp2_with fail;exact⟨rfl,.inr ⟨4,L5,d,Eo.out,rfl,vT.out,Int.le_refl _,by omega⟩⟩
structure Duo(b:Nat)(F:aV)(W:World)(q:Nat)(rc xc:Array Value)(W':World)(L:List Token)(d:Int):Prop where
 look:Look b F W W' L d
 res:Box W' W.heap.size 81 rc
 own:Box W' q 81 xc
 far:W.heap.size<q
 lt:b<W.heap.size
section
variable {b:Nat} {F:aV} {W:World} {q:Nat} {rc xc:Array Value} {W' W2:World} {L L2:List Token} {d d2:Int}
theorem Duo.go(h:Duo b F W q rc xc W' L d)(k:Look b F W' W2 L2 d2):Duo b F W q rc xc W2 L2 d2:=
 ⟨h.look.trans k,k.grew.jm h.res (by have:=h.lt;omega),k.grew.jm h.own (by have:=h.lt;have:=h.far;omega),h.far,h.lt⟩
theorem Duo.below(h:Duo b F W q rc xc W' L d)(hb:Below W'.heap.size W' W2):Duo b F W q rc xc W2 L d:=
 ⟨h.look.below hb,h.res.later hb h.res.lt,h.own.later hb h.own.lt,h.far,h.lt⟩
theorem Duo.jI(h:Duo b F W q rc xc W' L d)(i:Nat)(u:Value):Duo b F W q (rc.setIfInBounds i u) xc (W'.setCell ⟨W.heap.size,i,none⟩ u) L d:=
 ⟨h.look.set (aJ _) h.lt u,h.res.put i u,h.own.far (by have:=h.far;show q≠W.heap.size;omega) u,h.far,h.lt⟩
theorem Duo.ru(h:Duo b F W q rc xc W' L d)(i:Nat)(u:Value):Duo b F W q rc (xc.setIfInBounds i u) (W'.setCell ⟨q,i,none⟩ u) L d:=
 ⟨h.look.set (Nat.le_of_lt h.far) h.lt u,h.res.far (by have:=h.far;show W.heap.size≠q;omega) u,h.own.put i u,h.far,h.lt⟩
end
theorem dS:I64 0∧I64 1∧I64 2∧I64 3∧I64 4∧I64 5∧I64 6∧I64 7:=by
 unfold I64;decide
theorem mO{w:World}{F:aV}{k n:Int}{o s:ByteArray}{v:Value}{xs:List Ex}(hk:I64 k)(hn:I64 n)(ho:okS o)(hs:okS s)(h:SliceOf dN 5 72 w F v xs):dN w F [.int .i64 k,.int .i64 n,.string o,.string s,v] (.mk k n o s xs):=by
 have h2:∃m,SliceOf (BF m) 5 72 w F v xs:=by
  obtain⟨A,cap,rfl,h1,h2,h3,h3',h4⟩:=h;have hmono:∀m m' cs (y:Ex),m≤m'→BF m w F cs y→BF m' w F cs y:=by
   intro m
   induction m with
   |zero=>intro m' cs y _ h;exact h.elim
   |succ m ih=>
    intro m' cs y hm h;cases m' with
    |zero=>omega
    |succ m'=>
     obtain⟨av,h,a,b,c,d,e⟩:=h;refine⟨av,h,a,b,c,d,?_⟩;obtain⟨A,cap,rfl,k1,k2,k3,k3',k4⟩:=e;refine⟨A,cap,rfl,k1,k2,k3,k3',fun hl=>?_⟩;obtain⟨p,off,hA,hb,hx⟩:=k4 hl;refine⟨p,off,hA,hb,fun i z hi=>?_⟩;obtain⟨cs,hc,hr,hcell⟩:=hx i z hi;exact⟨cs,hc,ih _ _ _ (by omega) hr,hcell⟩
  by_cases hl:0<xs.length
  ·obtain⟨p,off,hA,hb,hx⟩:=h4 hl;have hex:∀i,∃m,∀y,xs[i]? =some y→∃cs:List Value,cs.length=5∧BF m w F cs y∧∀j u,cs[j]? =some u→w.cell? ⟨p,off+i*5+j,none⟩=some u:=fun i=>by
    cases hi:xs[i]? with
    |none=>exact⟨0,fun y h=>by cases h⟩
    |some y=>
     obtain⟨cs,hc,⟨m,hr⟩,hcell⟩:=hx i y hi;exact⟨m,fun z h=>by cases h;exact⟨cs,hc,hr,hcell⟩⟩
   obtain⟨g,hg⟩:=Classical.axiomOfChoice hex;have hmax:∀n,∃M,∀i,i<n→g i≤M:=by
    intro n
    induction n with
    |zero=>exact⟨0,fun i h=>by omega⟩
    |succ n ih=>
     obtain⟨M,hM⟩:=ih;exact⟨M+g n,fun i h=>by
      by_cases e:i=n
      ·subst e;omega
      ·have:=hM i (by omega);omega⟩
   obtain⟨M,hM⟩:=hmax xs.length;refine⟨M,A,cap,rfl,h1,h2,h3,h3',fun _=>⟨p,off,hA,hb,fun i y hi=>?_⟩⟩;obtain⟨cs,hc,hr,hcell⟩:=hg i y hi;exact⟨cs,hc,hmono _ _ _ _ (hM i (List.getElem?_eq_some_iff.1 hi).1) hr,hcell⟩
  ·exact⟨0,A,cap,rfl,h1,h2,h3,h3',fun h=>absurd h hl⟩
 obtain⟨m,h⟩:=h2;exact⟨m+1,v,rfl,hk,hn,ho,hs,h⟩
theorem YX{b:Nat}{F:aV}{f:Nat}(hx:Ei b F f)(W:World)(L:List Token)(d:Int)(s:ByteArray)(hs:okS s)(h:Look b F W W L d)(hl:L.length≤200)(hd:d+f=40)(h0:0≤d):
  Calls prog 282 #[.pointer (some ⟨b,0,none⟩),.string s] W (JG (zA dN) b F W W d (sW (bV f) s L)):=by
 obtain⟨R,hR⟩:∃R,sW (bV f) s L=R:=⟨_,rfl⟩;rw[hR];have hbl:=h.lt;obtain⟨HX,HR,HH,HS⟩:=au hx hR h hs;clear hx hR h hs;go_enter func282,ntmps282;go_upto_region 2 with fail
 have EM:=((Box.made W 81 #[.int .i64 0,.int .i64 0,.string ⟨#[]⟩,.string ⟨#[]⟩,.slice none 0 0]).alloc (.cells #[.int .i64 4,.int .i64 0,.string ⟨#[]⟩,.string s,.slice none 0 0] 81));have Gz:=(Box.made (W.alloc (.cells #[.int .i64 0,.int .i64 0,.string ⟨#[]⟩,.string ⟨#[]⟩,.slice none 0 0] 81)) 81 #[.int .i64 4,.int .i64 0,.string ⟨#[]⟩,.string s,.slice none 0 0]);rw[show(W.alloc (.cells #[.int .i64 0,.int .i64 0,.string ⟨#[]⟩,.string ⟨#[]⟩,.slice none 0 0] 81)).heap.size=W.heap.size+1 by simp only[World.size_alloc]]at Gz;have hbr:Below W.heap.size W ((W.alloc (.cells #[.int .i64 0,.int .i64 0,.string ⟨#[]⟩,.string ⟨#[]⟩,.slice none 0 0] 81)).alloc (.cells #[.int .i64 4,.int .i64 0,.string ⟨#[]⟩,.string s,.slice none 0 0] 81)):=by go_grown
 have kJ:((W.alloc (.cells #[.int .i64 0,.int .i64 0,.string ⟨#[]⟩,.string ⟨#[]⟩,.slice none 0 0] 81)).alloc (.cells #[.int .i64 4,.int .i64 0,.string ⟨#[]⟩,.string s,.slice none 0 0] 81)).heap.size=W.heap.size+1+1:=by simp only[World.size_alloc]
 generalize(W.alloc (.cells #[.int .i64 0,.int .i64 0,.string ⟨#[]⟩,.string ⟨#[]⟩,.slice none 0 0] 81)).alloc (.cells #[.int .i64 4,.int .i64 0,.string ⟨#[]⟩,.string s,.slice none 0 0] 81)=W1 at EM Gz hbr kJ⊢;have hd1:Duo b F W (W.heap.size+1) _ _ W1 L d:=⟨HH.out.below hbr,EM,Gz,by omega,hbl⟩;have htk:=take_any hd1.look.start RY;obtain⟨HD1,qR⟩:=aj hd1 htk;clear hd1 htk;clear EM Gz hbr kJ;go_wp2_with fail;refine qR.out.mono ?_;rintro e W2 ⟨z,L2,rfl,hT,hl2⟩;have hd2:=HD1.out.go hl2;have HD2:=ah hd2;clear hd2;clear hl2;go_upto_if 9 with (fail)
 go_cut [] (fun wc=>∃(L':List Token) (o nm:ByteArray),L'.length≤200∧okS o∧okS nm∧Aside (R=uP (bV f) o nm L')∧Aside (Duo b F W (W.heap.size+1) #[.int .i64 0,.int .i64 0,.string ⟨#[]⟩,.string ⟨#[]⟩,.slice none 0 0] #[.int .i64 4,.int .i64 0,.string o,.string nm,.slice none 0 0] wc L' d))
 case first=>
  cases z with
  |true=>
   have hT:=hT.yes;have hnm:=name_any HD2.out.look.start HD2.out.look.lt;obtain⟨HT,Ee⟩:=aj hT hnm;clear hT hnm;go_wp2_with fail;refine Ee.out.mono ?_;rintro e W3 (⟨n,L3,v,hn,rfl,⟨rfl,hok⟩,hl3⟩|⟨k,L3,d3,hn,rfl,hl3,h1,h2⟩)
   ·have hd3:=HD2.out.go hl3;have ho3:=hd3.own;have x2:=ho3.at_ 2 _ rfl;have x3:=ho3.at_ 3 _ rfl;have f2:=ho3.free 2;have f3:=ho3.free 3;have HD3:=ah hd3;clear hd3;clear hl3 ho3;go_upto_region 4 with fail
    have hd4:Duo b F W (W.heap.size+1) #[.int .i64 0,.int .i64 0,.string ⟨#[]⟩,.string ⟨#[]⟩,.slice none 0 0] #[.int .i64 4,.int .i64 0,.string s,.string n,.slice none 0 0] ((W3.setCell ⟨W.heap.size+1,2,none⟩ (.string s)).setCell ⟨W.heap.size+1,3,none⟩ (.string n)) L3 d:=by simpa using (HD3.out.ru 2 (.string s)).ru 3 (.string n)
    generalize(W3.setCell ⟨W.heap.size+1,2,none⟩ (.string s)).setCell ⟨W.heap.size+1,3,none⟩ (.string n)=W4 at hd4⊢;have hms:=lD hd4.look.start Y4;obtain⟨HD4,qj⟩:=aj hd4 hms;clear hd4 hms;clear x2 x3 f2 f3;go_wp2_with fail;refine qj.out.mono ?_;rintro e W5 ⟨L5,(⟨rfl,uJ,hl5⟩|⟨rfl,uJ,hl5⟩)⟩
    ·have hx5:R=uP (bV f) s n L5:=by
      rw[←HR.out];show iL _ _ _ _=_
      rw[dW HT.out,bI hn,bI (iH uJ)]
     have hs3:=qH _ _ _ hn;have ht3:=take_len HT.out;have ht5:=take_len uJ;have hd5:=HD4.out.go hl5;obtain⟨Eo,HD5⟩:=aj hx5 hd5;clear hx5 hd5;clear hl5 uJ;go_wp2_with fail;go_meet;exact⟨L5,s,n,by omega,HS.out,hok,aside Eo.out,aside HD5.out⟩
    ·have hx5:R=.error 4:=by
      rw[←HR.out];show iL _ _ _ _=_
      rw[dW HT.out,bI hn,bM (jy uJ)]
     have hd5:=HD4.out.go hl5;obtain⟨Eo,HD5⟩:=aj hx5 hd5;clear hx5 hd5;clear hl5 uJ;go_wp2_with fail;exact⟨rfl,.inr ⟨4,L5,d,Eo.out,rfl,HD5.out.look,Int.le_refl _,by omega⟩⟩
   ·have hx3:R=.error k:=by
     rw[←HR.out];show iL _ _ _ _=_
     rw[dW HT.out,bM hn]
    have hd3:=HD2.out.go hl3;obtain⟨wJ,HD3⟩:=aj hx3 hd3;clear hx3 hd3;clear hl3 hn;go_wp2_with fail;exact⟨rfl,.inr ⟨k,L3,d3,wJ.out,rfl,HD3.out.look,h1,h2⟩⟩
  |false=>
   obtain⟨hT,rfl⟩:=hT.no;have htk:=take_any HD2.out.look.start Y4;have hx2:R=iL Y4 (uP (bV f) mt s) (bJ (.mk 3 0 mt s [])) L2:=by
    rw[←HR.out];show iL _ _ _ _=_
    rw[lg hT]
   obtain⟨ahr,Tj⟩:=aj htk hx2;clear htk hx2;clear hT;go_wp2_with fail;refine ahr.out.mono ?_;rintro e W3 ⟨z3,L3,rfl,Cc,hl3⟩;have hd3:=HD2.out.go hl3;cases z3 with
   |true=>
    have Cc:=Cc.yes;have hx3:R=uP (bV f) mt s L3:=Tj.out.trans (dW Cc);have ht3:=take_len Cc;obtain⟨wJ,HD3⟩:=aj hx3 hd3;clear hx3 hd3;clear hl3 Cc;go_wp2_with fail;go_meet;exact⟨L3,mt,s,by omega,fP,HS.out,aside wJ.out,aside HD3.out⟩
   |false=>
    obtain⟨Cc,rfl⟩:=Cc.no;have hx3:R=.ok (.mk 3 0 mt s [],L3):=Tj.out.trans (lg Cc);have hr3:=hd3.res;have r0:=hr3.at_ 0 _ rfl;have r1:=hr3.at_ 1 _ rfl;have r2:=hr3.at_ 2 _ rfl;have r3:=hr3.at_ 3 _ rfl;have r4:=hr3.at_ 4 _ rfl;have g0:=hr3.free 0;have g1:=hr3.free 1;have g2:=hr3.free 2;have g3:=hr3.free 3;have g4:=hr3.free 4;obtain⟨wJ,HD3⟩:=aj hx3 hd3;clear hx3 hd3;clear hl3 Cc hr3;go_wp2_with fail;refine bodyPost_ret (v:=.agg #[.int .i64 3,.int .i64 0,.string ⟨#[]⟩,.string s,.slice none 0 0]) (by simp[results,results282,go_sem,r0,r1,r2,r3,r4]) rfl ?_;exact .inl ⟨_,L3,_,wJ.out,rfl,⟨[.int .i64 3,.int .i64 0,.string mt,.string s,.slice none 0 0],rfl,mO dS.2.2.2.1 dS.1 fP HS.out SliceOf.nil_⟩,(((((HD3.out.jI 0 _).jI 1 _).jI 2 _).jI 3 _).jI 4 _).look⟩
 case rest=>
  obtain⟨L5,o,nm,hl5,ho,hnm,hx5,hd5⟩:=hcut;obtain⟨W5,rfl⟩:∃W,W=wc:=⟨_,rfl⟩;have htk:=take_any hd5.out.look.start Qe;have anh:=ah htk;clear htk;go_wp2_with fail;refine anh.out.mono ?_;rintro e W6 ⟨z6,L6,rfl,hT6,nY⟩;have hd6:=hd5.out.go nY;cases z6 with
  |true=>
   have hx6:R=.ok (.mk 4 0 o nm [],L6):=hx5.out.trans (dW hT6.yes);have rF:=hd6.res;have ho6:=hd6.own;have r0:=rF.at_ 0 _ rfl;have r1:=rF.at_ 1 _ rfl;have r2:=rF.at_ 2 _ rfl;have r3:=rF.at_ 3 _ rfl;have r4:=rF.at_ 4 _ rfl;have g0:=rF.free 0;have g1:=rF.free 1;have g2:=rF.free 2;have g3:=rF.free 3;have g4:=rF.free 4;have x0:=ho6.at_ 0 _ rfl;have x1:=ho6.at_ 1 _ rfl;have x2:=ho6.at_ 2 _ rfl;have x3:=ho6.at_ 3 _ rfl;have x4:=ho6.at_ 4 _ rfl;obtain⟨CQ,HD6,HO,Ee⟩:=au hx6 hd6 ho hnm;clear hx6 hd6 ho hnm;clear nY hT6 rF ho6 hx5 hd5;go_wp2_with fail;refine bodyPost_ret (v:=.agg #[.int .i64 4,.int .i64 0,.string o,.string nm,.slice none 0 0]) (by simp[results,results282,go_sem,r0,r1,r2,r3,r4]) rfl ?_;exact .inl ⟨_,L6,_,CQ.out,rfl,⟨[.int .i64 4,.int .i64 0,.string o,.string nm,.slice none 0 0],rfl,mO dS.2.2.2.2.1 dS.1 HO.out Ee.out SliceOf.nil_⟩,(((((HD6.out.jI 0 _).jI 1 _).jI 2 _).jI 3 _).jI 4 _).look⟩
  |false=>
   obtain⟨hT6,rfl⟩:=hT6.no;have hx6:R=aO (rV (bV f) Qe) (fun xs=>bJ (.mk 4 0 o nm xs)) L6:=hx5.out.trans (lg hT6);have hls:=Qc HX.out W6 L6 d Qe hd6.look.start hl5 hd h0;obtain⟨CQ,HD6,HO,Ee,HLS⟩:=ay hx6 hd6 ho hnm hls;clear hx6 hd6 ho hnm hls;clear nY hT6 hx5 hd5;go_wp2_with fail;refine HLS.out.mono ?_;rintro e W7 (⟨xs,L7,v,hn,rfl,hv,uI⟩|⟨k,L7,d7,hn,rfl,uI,h1,h2⟩)
   ·have hx7:R=.ok (.mk 4 0 o nm xs,L7):=CQ.out.trans (bI hn);have hd7:=HD6.out.go uI;obtain⟨A,c,rfl,_⟩:=SliceOf.form hv;have zx:=hd7.res;have Jj:=hd7.own;have hwq:¬(W6.heap.size≤W.heap.size+1):=by have:=HD6.out.own.lt;omega
    have hwr:¬(W6.heap.size≤W.heap.size):=by omega
    have hw6:=HD6.out.look.size;have hw7:=uI.size;have r0:=zx.at_ 0 _ rfl;have r1:=zx.at_ 1 _ rfl;have r2:=zx.at_ 2 _ rfl;have r3:=zx.at_ 3 _ rfl;have r4:=zx.at_ 4 _ rfl;have g0:=zx.free 0;have g1:=zx.free 1;have g2:=zx.free 2;have g3:=zx.free 3;have g4:=zx.free 4;have x0:=Jj.at_ 0 _ rfl;have x1:=Jj.at_ 1 _ rfl;have x2:=Jj.at_ 2 _ rfl;have x3:=Jj.at_ 3 _ rfl;have x4:=Jj.at_ 4 _ rfl;have q0:=Jj.free 0;have q1:=Jj.free 1;have q2:=Jj.free 2;have q3:=Jj.free 3;have q4:=Jj.free 4;obtain⟨Xv,HD7,HV⟩:=ak hx7 hd7 hv;clear hx7 hd7 hv;clear uI hn zx Jj;go_wp2_with fail;refine bodyPost_ret (v:=.agg #[.int .i64 4,.int .i64 0,.string o,.string nm,.slice A xs.length c]) (by simp[results,results282,go_sem,r0,r1,r2,r3,r4]) rfl ?_;refine .inl ⟨_,L7,_,Xv.out,rfl,⟨[.int .i64 4,.int .i64 0,.string o,.string nm,.slice A xs.length c],rfl,mO dS.2.2.2.2.1 dS.1 HO.out Ee.out (SliceOf.stays dN.stays HV.out ?_ ?_)⟩,((((((HD7.out.ru 4 _).jI 0 _).jI 1 _).jI 2 _).jI 3 _).jI 4 _).look⟩
    ·simp only[size_set];exact jQ (by omega) (aJ _)
    ·exact((((((Keeps.refl _ _).setCell (fun h=>hwq h.1) _).setCell (fun h=>hwr h.1) _).setCell (fun h=>hwr h.1) _).setCell (fun h=>hwr h.1) _).setCell (fun h=>hwr h.1) _).setCell (fun h=>hwr h.1) _
   ·have hx7:R=.error k:=CQ.out.trans (bM hn);have hd7:=HD6.out.go uI;obtain⟨Xv,HD7⟩:=aj hx7 hd7;clear hx7 hd7;clear uI hn;go_wp2_with fail;exact⟨rfl,.inr ⟨k,L7,d7,Xv.out,rfl,HD7.out.look,h1,h2⟩⟩
theorem Vg{s:ByteArray}(h:jC s=true):Lib.atoiAll s.data.toList=.ok (spell 0 s.data.toList:Int)∧spell 0 s.data.toList≤999999:=by
 unfold jC at h;rw[Bool.and_eq_true,decide_eq_true_eq]at h;have:=Vh h.2 (by show s.data.toList.length≤6;rw[Array.length_toList];exact h.1);exact⟨this.1,this.2.1⟩
theorem abH{b:Nat}{F:aV}{f:Nat}(hx:Ei b F f)(W:World)(L:List Token)(d:Int)(h:Look b F W W L d)(hl:L.length≤200)(hd:d+f=40)(h0:0≤d):
  Calls prog 268 #[.pointer (some ⟨b,0,none⟩)] W (JG (zA dN) b F W W d (yD (bV f) L)):=by
 obtain⟨R,hR⟩:∃R,yD (bV f) L=R:=⟨_,rfl⟩;rw[hR];have hbl:=h.lt;obtain⟨HX,HR,HH⟩:=ak hx hR h;clear hx hR h;go_enter func268,ntmps268;go_upto_region 1 with fail
 have hBr:=Box.made W 81 #[.int .i64 0,.int .i64 0,.string ⟨#[]⟩,.string ⟨#[]⟩,.slice none 0 0];have hbr:Below W.heap.size W (W.alloc (.cells #[.int .i64 0,.int .i64 0,.string ⟨#[]⟩,.string ⟨#[]⟩,.slice none 0 0] 81)):=by go_grown
 have kJ:(W.alloc (.cells #[.int .i64 0,.int .i64 0,.string ⟨#[]⟩,.string ⟨#[]⟩,.slice none 0 0] 81)).heap.size=W.heap.size+1:=by simp
 generalize W.alloc (.cells #[.int .i64 0,.int .i64 0,.string ⟨#[]⟩,.string ⟨#[]⟩,.slice none 0 0] 81)=W1 at hBr hbr kJ⊢;have hl1:=HH.out.below hbr;have htk:=take_any hl1.start Y4;obtain⟨Ed,qR,HB1⟩:=ak hl1 htk hBr;clear hl1 htk hBr;clear hbr kJ;go_wp2_with fail;refine qR.out.mono ?_;rintro e W2 ⟨z,L2,rfl,hT,hl2⟩;have hb2:=hl2.grew.jm HB1.out (by omega);have oW:=Ed.out.trans hl2;obtain⟨HL2,HB2⟩:=aj oW hb2;clear oW hb2;clear hl2 HB1 Ed;cases z with
 |true=>
  have hT:=hT.yes;have ht2:=take_len hT;have hcx:=HX.out W2 L2 d HL2.out.start (by omega) hd h0;obtain⟨HT,xI⟩:=aj hT hcx;clear hT hcx;go_wp2_with fail;refine xI.out.mono ?_;rintro e W3 (⟨x,L3,v,hn,rfl,⟨cs,rfl,hX⟩,hl3⟩|⟨k,L3,d3,hn,rfl,hl3,h1,h2⟩)
  ·have pG:=HL2.out.trans hl3;have hb3:=hl3.grew.jm HB2.out (by omega);have hw2:=HB2.out.lt;have hw3:=hl3.size;obtain⟨A,c,rfl⟩:=dN.form hX;obtain⟨HN,tN,BP,HB3⟩:=au hn hX pG hb3;clear hn hX pG hb3;clear hl3 HL2 HB2;go_upto_region 3 with fail
   have hBx:=Box.made W3 81 #[.int .i64 x.kind,.int .i64 x.n,.string x.bT,.string x.s,.slice A x.args.length c];have hbx:Below W3.heap.size W3 (W3.alloc (.cells #[.int .i64 x.kind,.int .i64 x.n,.string x.bT,.string x.s,.slice A x.args.length c] 81)):=by go_grown
   have hzx:(W3.alloc (.cells #[.int .i64 x.kind,.int .i64 x.n,.string x.bT,.string x.s,.slice A x.args.length c] 81)).heap.size=W3.heap.size+1:=by simp
   generalize W3.alloc (.cells #[.int .i64 x.kind,.int .i64 x.n,.string x.bT,.string x.s,.slice A x.args.length c] 81)=W4 at hBx hbx hzx⊢;have hl4:=BP.out.below hbx;have hb4:=HB3.out.later hbx HB3.out.lt;have GK:=dN.stays.later tN.out hbx cZ;have hms:=lD hl4.start Qe;have hqr:W3.heap.size≠W.heap.size:=by omega
   have hqb:W3.heap.size≠b:=by omega
   obtain⟨AZ,HB4,QD,qj,zl⟩:=ay hl4 hb4 GK hms hBx;clear hl4 hb4 GK hms hBx;clear hbx hzx tN HB3 BP;go_wp2_with fail;refine qj.out.mono ?_;rintro e W5 ⟨L5,(⟨rfl,uJ,hl5⟩|⟨rfl,uJ,hl5⟩)⟩
   ·have hx5:R=.ok (x,L5):=by
     rw[←HR.out];show iL _ _ _ _=_
     rw[dW HT.out,bI HN.out,bI (iH uJ)];rfl
    have oC:=AZ.out.trans hl5;have jM:=hl5.grew.jm HB4.out (by omega);have qm:=hl5.grew.jm zl.out hqb;have KQ:=dN.stays _ _ _ _ _ _ QD.out (fun _ h=>h) (hl5.grew.keeps (n:=W2.heap.size) (m:=W3.heap.size) (by omega) (by have:=zl.out.lt;omega));have hw5:=hl5.size;have hw4:=zl.out.lt;have hwr:¬(W2.heap.size≤W.heap.size):=by omega
    have r0:=jM.at_ 0 _ rfl;have r1:=jM.at_ 1 _ rfl;have r2:=jM.at_ 2 _ rfl;have r3:=jM.at_ 3 _ rfl;have r4:=jM.at_ 4 _ rfl;have g0:=jM.free 0;have g1:=jM.free 1;have g2:=jM.free 2;have g3:=jM.free 3;have g4:=jM.free 4;have x0:=qm.at_ 0 _ rfl;have x1:=qm.at_ 1 _ rfl;have x2:=qm.at_ 2 _ rfl;have x3:=qm.at_ 3 _ rfl;have x4:=qm.at_ 4 _ rfl;obtain⟨Eo,vT,tN,HW4⟩:=au hx5 oC KQ hw4;clear hx5 oC KQ hw4;clear hl5 uJ jM qm;go_wp2_with fail;refine bodyPost_ret (v:=.agg #[.int .i64 x.kind,.int .i64 x.n,.string x.bT,.string x.s,.slice A x.args.length c]) (by simp[results,results268,go_sem,r0,r1,r2,r3,r4]) rfl ?_;refine .inl ⟨x,L5,_,Eo.out,rfl,⟨[.int .i64 x.kind,.int .i64 x.n,.string x.bT,.string x.s,.slice A x.args.length c],rfl,dN.stays _ _ _ _ _ _ tN.out ?_ ?_⟩,((((vT.out.set (aJ _) hbl _).set (aJ _) hbl _).set (aJ _) hbl _).set (aJ _) hbl _).set (aJ _) hbl _⟩
    ·simp only[size_set];exact jQ (by omega) (by have:=HW4.out;omega)
    ·exact(((((Keeps.refl _ _).setCell (fun h=>hwr h.1) _).setCell (fun h=>hwr h.1) _).setCell (fun h=>hwr h.1) _).setCell (fun h=>hwr h.1) _).setCell (fun h=>hwr h.1) _
   ·have hx5:R=.error 4:=by
     rw[←HR.out];show iL _ _ _ _=_
     rw[dW HT.out,bI HN.out,bM (jy uJ)]
    have oC:=AZ.out.trans hl5;obtain⟨Eo,vT⟩:=aj hx5 oC;clear hx5 oC;clear hl5 uJ;go_wp2_with fail;exact⟨rfl,.inr ⟨4,L5,d,Eo.out,rfl,vT.out,Int.le_refl _,by omega⟩⟩
  ·have hx3:R=.error k:=by
    rw[←HR.out];show iL _ _ _ _=_
    rw[dW HT.out,bM hn]
   have pG:=HL2.out.trans hl3;obtain⟨wJ,BP⟩:=aj hx3 pG;clear hx3 pG;clear hl3 hn;go_wp2_with fail;exact⟨rfl,.inr ⟨k,L3,d3,wJ.out,rfl,BP.out,h1,h2⟩⟩
 |false=>
  obtain⟨hT,rfl⟩:=hT.no;have hx2:R=iL Vt (aO (rV (bV f) Xz) fun xs=>bJ (.mk 6 0 mt mt xs)) (AB (bV f)) L2:=by
   rw[←HR.out];show iL _ _ _ _=_
   rw[lg hT]
  have htk:=take_any HL2.out.start Vt;obtain⟨ahr,Tj⟩:=aj htk hx2;clear htk hx2;clear hT;go_wp2_with fail;refine ahr.out.mono ?_;rintro e W3 ⟨z3,L3,rfl,Cc,hl3⟩;have hb3:=hl3.grew.jm HB2.out (by omega);have pG:=HL2.out.trans hl3;have hw3:=hb3.lt;obtain⟨BP,HB3⟩:=aj pG hb3;clear pG hb3;clear hl3 HL2 HB2;cases z3 with
  |true=>
   have Cc:=Cc.yes;have ht3:=take_len Cc;have hls:=Qc HX.out W3 L3 d Xz BP.out.start (by omega) hd h0;have hx3:=Tj.out.trans (dW Cc);obtain⟨wJ,HLS⟩:=aj hx3 hls;clear hx3 hls;clear Cc;go_wp2_with fail;refine HLS.out.mono ?_;rintro e W4 (⟨xs,L4,v,hn,rfl,hv,hl4⟩|⟨k,L4,d4,hn,rfl,hl4,h1,h2⟩)
   ·have hx4:R=.ok (.mk 6 0 mt mt xs,L4):=wJ.out.trans (bI hn);have qh:=BP.out.trans hl4;have hr4:=hl4.grew.jm HB3.out (by omega);obtain⟨A,c,rfl,_⟩:=SliceOf.form hv;have hw4:=hl4.size;have hwr:¬(W3.heap.size≤W.heap.size):=by omega
    have r0:=hr4.at_ 0 _ rfl;have r1:=hr4.at_ 1 _ rfl;have r2:=hr4.at_ 2 _ rfl;have r3:=hr4.at_ 3 _ rfl;have r4:=hr4.at_ 4 _ rfl;have g0:=hr4.free 0;have g1:=hr4.free 1;have g2:=hr4.free 2;have g3:=hr4.free 3;have g4:=hr4.free 4;obtain⟨QD,AZ,HV⟩:=ak hx4 qh hv;clear hx4 qh hv;clear hl4 hn hr4;go_wp2_with fail;refine bodyPost_ret (v:=.agg #[.int .i64 6,.int .i64 0,.string ⟨#[]⟩,.string ⟨#[]⟩,.slice A xs.length c]) (by simp[results,results268,go_sem,r0,r1,r2,r3,r4]) rfl ?_;refine .inl ⟨_,L4,_,QD.out,rfl,⟨[.int .i64 6,.int .i64 0,.string mt,.string mt,.slice A xs.length c],rfl,mO dS.2.2.2.2.2.2.1 dS.1 fP fP (SliceOf.stays dN.stays HV.out ?_ ?_)⟩,((((AZ.out.set (aJ _) hbl _).set (aJ _) hbl _).set (aJ _) hbl _).set (aJ _) hbl _).set (aJ _) hbl _⟩
    ·simp only[size_set];exact jQ (by omega) (aJ _)
    ·exact(((((Keeps.refl _ _).setCell (fun h=>hwr h.1) _).setCell (fun h=>hwr h.1) _).setCell (fun h=>hwr h.1) _).setCell (fun h=>hwr h.1) _).setCell (fun h=>hwr h.1) _
   ·have hx4:R=.error k:=wJ.out.trans (bM hn);have qh:=BP.out.trans hl4;obtain⟨QD,AZ⟩:=aj hx4 qh;clear hx4 qh;clear hl4 hn;go_wp2_with fail;exact⟨rfl,.inr ⟨k,L4,d4,QD.out,rfl,AZ.out,h1,h2⟩⟩
  |false=>
   obtain⟨Cc,rfl⟩:=Cc.no;have hx3:R=AB (bV f) L3:=Tj.out.trans (lg Cc);have hnx:=next_any BP.out.start BP.out.lt;obtain⟨wJ,Zr⟩:=aj hx3 hnx;clear hx3 hnx;clear Cc;go_wp2_with fail;refine Zr.out.mono ?_;rintro e W4 ⟨t,L4,rfl,hN,hk,htx,hl4⟩;obtain⟨kd,tx⟩:=t;dsimp only at*;have qh:=BP.out.trans hl4;have hb4:=hl4.grew.jm HB3.out (by omega);have hne0:kd≠0→L3=⟨kd,tx⟩::L4:=fun hk0=>by
    rcases hN with ⟨_,h,_⟩|h
    ·injection h with h1 h2;exact absurd h1 hk0
    ·exact h
   have akT:L4.length≤L3.length:=by
    rcases hN with ⟨_,_,h⟩|h<;>(rw[h];simp)
   have Io:kd=2→jC tx=true:=fun h2=>BP.out.fine ⟨kd,tx⟩ (by rw[hne0 (by omega)];exact List.mem_cons_self) h2
   have hbad:¬(kd=3∨kd=2∨(kd=1∧aX tx=true))→R=.error 4:=fun hn=>by
    rw[wJ.out];rcases hN with ⟨h,_,_⟩|h
    ·rw[h];rfl
    ·rw[h,jd,if_neg (fun h=>hn (.inl h)),if_neg (fun h=>hn (.inr (.inl h))),if_neg (fun h=>hn (.inr (.inr h)))]
   obtain⟨AZ,HB4,BH,OG,HBAD,BK,HLN⟩:=aB qh hb4 hne0 Io hbad htx akT;clear qh hb4 hne0 Io hbad htx akT;clear hl4 hN hk Zr;go_upto_region 8 with fail
   have hBt:=Box.made W4 182 #[.int .i64 kd,.string tx];have hbt:Below W4.heap.size W4 (W4.alloc (.cells #[.int .i64 kd,.string tx] 182)):=by go_grown
   have pW:(W4.alloc (.cells #[.int .i64 kd,.string tx] 182)).heap.size=W4.heap.size+1:=by simp
   generalize W4.alloc (.cells #[.int .i64 kd,.string tx] 182)=W5 at hBt hbt pW⊢;have hl5:=AZ.out.below hbt;have jM:=HB4.out.later hbt HB4.out.lt;have hw4:=HB4.out.lt;have hnr:W4.heap.size≠W.heap.size:=by omega
   have aq2:W.heap.size≠W4.heap.size:=by omega
   have hnb:W4.heap.size≠b:=by have:=AZ.out.lt;omega
   have hid:=fun U=>iV tx U BK.out
   obtain⟨z1,hz1⟩:∃z,(aX tx)=z:=⟨_,rfl⟩;rw[hz1]at hid;have Z1:=Lib.hid hz1;clear hz1;have x0:=hBt.at_ 0 _ rfl;have x1:=hBt.at_ 1 _ rfl;have r0:=jM.at_ 0 _ rfl;have r1:=jM.at_ 1 _ rfl;have r2:=jM.at_ 2 _ rfl;have r3:=jM.at_ 3 _ rfl;have r4:=jM.at_ 4 _ rfl;have g0:=jM.free 0;have g1:=jM.free 1;have g2:=jM.free 2;have g3:=jM.free 3;have g4:=jM.free 4;obtain⟨vT,Gj,xJ,TI⟩:=au hl5 jM hBt hid;clear hl5 jM hBt hid;clear hbt pW;cases hq3:(kd==3)with
   |true=>
    have hk3:kd=3:=by simpa using hq3
    have hx5:R=.ok (.mk 2 0 mt tx [],L4):=by rw[wJ.out,BH.out (by omega),jd,if_pos hk3]
    have Eo:=ah hx5;clear hx5;clear hk3;go_wp2_with fail;refine bodyPost_ret (v:=.agg #[.int .i64 2,.int .i64 0,.string ⟨#[]⟩,.string tx,.slice none 0 0]) (by simp[results,results268,go_sem,r0,r1,r2,r3,r4]) rfl ?_;exact .inl ⟨_,L4,_,Eo.out,rfl,⟨[.int .i64 2,.int .i64 0,.string mt,.string tx,.slice none 0 0],rfl,mO dS.2.2.1 dS.1 fP BK.out SliceOf.nil_⟩,((((vT.out.set (aJ _) hbl _).set (aJ _) hbl _).set (aJ _) hbl _).set (aJ _) hbl _).set (aJ _) hbl _⟩
   |false=>
    have hk3:¬kd=3:=by simpa using hq3
    cases hq2:(kd==2)with
    |true=>
     have hk2:kd=2:=by simpa using hq2
     have hx5:R=.ok (.mk 1 (spell 0 tx.data.toList:Nat) mt mt [],L4):=by rw[wJ.out,BH.out (by omega),jd,if_neg hk3,if_pos hk2]
     have hna:=Vg (OG.out hk2);have hat:=fun U=>ZC tx U _ BK.out hna.1
     generalize spell 0 tx.data.toList=n at hx5 hna hat;have hni:I64 (n:Int):=⟨by omega,by have:=hna.2;omega⟩;obtain⟨Eo,HAT,HNI⟩:=ak hx5 hat hni;clear hx5 hat hni;clear hk2 hk3 hna;go_wp2_with fail;refine(HAT.out _).mono ?_;rintro e W6 ⟨rfl,hb6⟩;have nY:=vT.out.below hb6;have rF:=Gj.out.later hb6 Gj.out.lt;clear r0 r1 r2 r3 r4 g0 g1 g2 g3 g4;have r0:=rF.at_ 0 _ rfl;have r1:=rF.at_ 1 _ rfl;have r2:=rF.at_ 2 _ rfl;have r3:=rF.at_ 3 _ rfl;have r4:=rF.at_ 4 _ rfl;have g0:=rF.free 0;have g1:=rF.free 1;have g2:=rF.free 2;have g3:=rF.free 3;have g4:=rF.free 4;have Jt:=ah nY;clear nY;clear rF hb6;go_wp2_with fail;refine bodyPost_ret (v:=.agg #[.int .i64 1,.int .i64 n,.string ⟨#[]⟩,.string ⟨#[]⟩,.slice none 0 0]) (by simp[results,results268,go_sem,r0,r1,r2,r3,r4]) rfl ?_;exact .inl ⟨_,L4,_,Eo.out,rfl,⟨[.int .i64 1,.int .i64 n,.string mt,.string mt,.slice none 0 0],rfl,mO dS.2.1 HNI.out fP fP SliceOf.nil_⟩,((((Jt.out.set (aJ _) hbl _).set (aJ _) hbl _).set (aJ _) hbl _).set (aJ _) hbl _).set (aJ _) hbl _⟩
    |false=>
     have hk2:¬kd=2:=by simpa using hq2
     cases hq1:(kd==1)with
     |false=>
      have hk1:¬kd=1:=by simpa using hq1
      have hx5:=HBAD.out (fun h=>by rcases h with h|h|h;exact hk3 h;exact hk2 h;exact hk1 h.1);have Eo:=ah hx5;clear hx5;clear hk1 hk2 hk3;go_wp2_with(first|(go_at_call 71;(with_reducible refine(bF _ _).mono ?_);rintro e w' ⟨rfl,rfl⟩)|(go_at_call 71;(with_reducible refine(bQ _ _).mono ?_);rintro e w' ⟨rfl,rfl⟩));exact⟨rfl,.inr ⟨4,L4,d,Eo.out,rfl,vT.out,Int.le_refl _,by omega⟩⟩
     |true=>
      have hk1:kd=1:=by simpa using hq1
      cases z1 with
      |false=>
       have hx5:=HBAD.out (fun h=>by rcases h with h|h|h;exact hk3 h;exact hk2 h;rw[Z1.out]at h;cases h.2);have Eo:=ah hx5;clear hx5;clear hk1 hk2 hk3;go_wp2_with(first|(go_at_call 61;(with_reducible refine(TI.out _).mono ?_);rintro e W6 ⟨rfl,hb6⟩;have Jt:=Lib.hid (vT.out.below hb6);clear hb6)|(go_at_call 71;(with_reducible refine(bQ _ _).mono ?_);rintro e w' ⟨rfl,rfl⟩));exact⟨rfl,.inr ⟨4,L4,d,Eo.out,rfl,Jt.out,Int.le_refl _,by omega⟩⟩
      |true=>
       have hx5:R=sW (bV f) tx L4:=by rw[wJ.out,BH.out (by omega),jd,if_neg hk3,if_neg hk2,if_pos ⟨hk1,Z1.out⟩]
       have hnm:=fun U (hU:Below W5.heap.size W5 U)=>YX HX.out U L4 d tx BK.out (vT.out.below hU).start (by have:=HLN.out;omega) hd h0
       rw[←hx5]at hnm;have Ee:=ah hnm;clear hnm;clear hk1 hk2 hk3 hx5;go_wp2_with(first|(go_at_call 61;(with_reducible refine(TI.out _).mono ?_);rintro e W6 ⟨rfl,hb6⟩;have HU6:=Lib.hid hb6;have y1:=(xJ.out.later hb6 xJ.out.lt).at_ 1 _ rfl;clear hb6)|(go_at_call 71;(with_reducible refine(bF _ _).mono ?_);rintro e w' ⟨rfl,rfl⟩));refine(Ee.out _ HU6.out).mono ?_;have nY:=vT.out.below HU6.out;have rF:=Gj.out.later HU6.out Gj.out.lt;rintro e W7 (⟨x,L7,v,hn,rfl,⟨cs,rfl,hX⟩,uI⟩|⟨k,L7,d7,hn,rfl,uI,h1,h2⟩)
       ·have UF:=nY.trans uI;have zx:=uI.grew.jm rF (by omega);have hw6:=rF.lt;have hw7:=uI.size;have hwr:¬(W6.heap.size≤W.heap.size):=by omega
        obtain⟨A,c,rfl⟩:=dN.form hX;clear r0 r1 r2 r3 r4 g0 g1 g2 g3 g4;have r0:=zx.at_ 0 _ rfl;have r1:=zx.at_ 1 _ rfl;have r2:=zx.at_ 2 _ rfl;have r3:=zx.at_ 3 _ rfl;have r4:=zx.at_ 4 _ rfl;have g0:=zx.free 0;have g1:=zx.free 1;have g2:=zx.free 2;have g3:=zx.free 3;have g4:=zx.free 4;obtain⟨Xv,HL7,tN⟩:=ak hn UF hX;clear hn UF hX;clear uI zx rF nY;go_wp2_with fail;refine bodyPost_ret (v:=.agg #[.int .i64 x.kind,.int .i64 x.n,.string x.bT,.string x.s,.slice A x.args.length c]) (by simp[results,results268,go_sem,r0,r1,r2,r3,r4]) rfl ?_;refine .inl ⟨x,L7,_,Xv.out,rfl,⟨[.int .i64 x.kind,.int .i64 x.n,.string x.bT,.string x.s,.slice A x.args.length c],rfl,dN.stays _ _ _ _ _ _ tN.out ?_ ?_⟩,((((HL7.out.set (aJ _) hbl _).set (aJ _) hbl _).set (aJ _) hbl _).set (aJ _) hbl _).set (aJ _) hbl _⟩
        ·simp only[size_set];exact jQ (by omega) (aJ _)
        ·exact(((((Keeps.refl _ _).setCell (fun h=>hwr h.1) _).setCell (fun h=>hwr h.1) _).setCell (fun h=>hwr h.1) _).setCell (fun h=>hwr h.1) _).setCell (fun h=>hwr h.1) _
       ·have UF:=nY.trans uI;obtain⟨Xv,HL7⟩:=aj hn UF;clear hn UF;clear uI nY rF;go_wp2_with fail;exact⟨rfl,.inr ⟨k,L7,d7,Xv.out,rfl,HL7.out,h1,h2⟩⟩
def acX(D:List Deferred)(K:List PanicEntry→World→Prop)(Q:Exit→Act→World→Prop):Exit→Act→World→Prop
 | .panic c,a,w=>a.defers=D∧K c w
 |e,a,w=>Q e a w
theorem kQ{P:Program}{id:Nat}{ops:Array Oper}{b:Bool}{Q:Exit→Act→World→Prop}{a:Act}{w:World}(D:List Deferred)(K:List PanicEntry→World→Prop)
  (hK:∀c a w,a.defers=D→K c w→Q (.panic c) a w) (h:(Code.region id ops b).wp P (acX D K Q) a w):(Code.region id ops b).wp P Q a w:=
 Code.wp_mono (fun e a w h=>by
  cases e
  case panic c=>exact hK _ _ _ h.1 h.2
  all_goals exact h) h
theorem Y3{α:Type}{R:CR α}{sz jZ:Nat}{F:aV}{w:World}{n:Nat}{t:TypeId}{cs ds:List Value}{x y:α}(hB:Box w n t (cs++ds).toArray)(hR:R w F cs x)(hS:R w F ds y)(hc:cs.length=sz)(hd:ds.length=sz)(hF:F n)(hb:jZ≤1000000):SliceOf R sz jZ w F (.slice (some ⟨n,0,none⟩) 2 2) [x,y]:=by
 refine⟨_,2,rfl,aJ _,by unfold maxLen;decide,by show 2*jZ≤_;omega,by simp,fun _=>⟨n,0,rfl,hF,fun i z hi=>?_⟩⟩
 match i,hi with
 |0,hi=>
  simp only[List.getElem?_cons_zero,Option.some.injEq]at hi;subst hi;refine⟨cs,hc,hR,fun j u hj=>?_⟩;rw[Nat.zero_mul,Nat.add_zero,Nat.zero_add];refine hB.at_ j u ?_;have hlt:j<cs.length:=(List.getElem?_eq_some_iff.1 hj).1;rw[List.getElem?_toArray,List.getElem?_append_left hlt];exact hj
 |1,hi=>
  simp only[List.getElem?_cons_succ,List.getElem?_cons_zero,Option.some.injEq]at hi;subst hi;refine⟨ds,hd,hS,fun j u hj=>?_⟩;rw[Nat.one_mul,Nat.zero_add];refine hB.at_ _ u ?_;rw[List.getElem?_toArray,List.getElem?_append_right (by omega),hc,Nat.add_sub_cancel_left];exact hj
def Fit(W:World)(q:Nat)(w:World)(G:aV):Prop:=∀k,G k→W.heap.size<k∧k≠q∧k<w.heap.size
def Js(G:aV)(n m:Nat):aV:=fun k=>G k∨fresh n m k∨k=m
theorem Fit.two{W:World}{q:Nat}{w w':World}{G:aV}(h:Fit W q w G)(hs:w.heap.size≤w'.heap.size)(hq:q<w.heap.size)(hW:W.heap.size<q)(o:Obj):Fit W q (w'.alloc o) (Js G w.heap.size w'.heap.size):=fun k hk=>by
 have e:(w'.alloc o).heap.size=w'.heap.size+1:=by simp
 rw[e];rcases hk with hk|hk|rfl
 ·have:=h k hk;exact⟨this.1,this.2.1,by omega⟩
 ·have h1:=hk.1;have h2:=hk.2;exact⟨by omega,by omega,by omega⟩
 ·exact⟨by omega,by omega,by omega⟩
theorem JD{W w w':World}{b q:Nat}{G:aV}{cs ds:List Value}{x y:Ex}(t:TypeId)(hX:dN w G cs x)(hF:Fit W q w G)(hg:Grew b w w' (some b))(hb:b<W.heap.size)(hY:dN w' (fresh w.heap.size w'.heap.size) ds y){k:Int}(hk:I64 k):
  dN (w'.alloc (.cells (cs++ds).toArray t)) (Js G w.heap.size w'.heap.size) [.int .i64 k,.int .i64 0,.string mt,.string mt,.slice (some ⟨w'.heap.size,0,none⟩) 2 2] (.mk k 0 mt mt [x,y]):=by
 have hk':∀k,G k∨fresh w.heap.size w'.heap.size k→k<w'.heap.size:=fun k hk=>by
  rcases hk with hk|hk
  ·have:=(hF k hk).2.2;have:=hg.size;omega
  ·exact hk.2
 have hX2:dN (w'.alloc (.cells (cs++ds).toArray t)) (Js G w.heap.size w'.heap.size) cs x:=dN.stays _ _ _ _ _ _ hX (fun _ h=>.inl h) (dY fun k hk=>(Below.heap_alloc _ _ _ (hk' k (.inl hk))).trans (hg.block k (hF k hk).2.2 (fun e=>by injection e with e;have:=(hF k hk).1;omega)));have hY2:dN (w'.alloc (.cells (cs++ds).toArray t)) (Js G w.heap.size w'.heap.size) ds y:=dN.stays _ _ _ _ _ _ hY (fun _ h=>.inr (.inl h)) (dY fun k hk=>Below.heap_alloc _ _ _ (hk' k (.inr hk)));exact mO hk dS.1 fP fP (Y3 (Box.made _ _ _) hX2 hY2 (aaj hX) (aaj hY) (.inr (.inr rfl)) (by decide))
theorem Duo.alloc{b:Nat}{F:aV}{W:World}{q:Nat}{rc xc:Array Value}{W':World}{L:List Token}{d:Int}(h:Duo b F W q rc xc W' L d)(o:Obj):Duo b F W q rc xc (W'.alloc o) L d:=h.below ((Below.refl _ _).alloc (aJ _) o)
theorem abK{b:Nat}{F:aV}{f:Nat}(hx:Ei b F f)(W:World)(L:List Token)(d:Int)(h:Look b F W W L d)(hl:L.length≤200)(hd:d+f=40)(h0:0≤d):
  Calls prog 248 #[.pointer (some ⟨b,0,none⟩)] W (JG (zA dN) b F W W d (lq (bV f) L)):=by
 obtain⟨R,hR⟩:∃R,lq (bV f) L=R:=⟨_,rfl⟩;rw[hR];have hbl:=h.lt;have hat:=fun U (hU:Below W.heap.size W U)=>abH hx U L d (h.below hU).start hl hd h0
 obtain⟨HX,HR,HH,HAT⟩:=au hx hR h hat;clear hx hR h hat;go_enter func248,ntmps248;go_upto_region 1 with fail
 have hBr:=Box.made W 81 #[.int .i64 0,.int .i64 0,.string ⟨#[]⟩,.string ⟨#[]⟩,.slice none 0 0];have hbr:Below W.heap.size W (W.alloc (.cells #[.int .i64 0,.int .i64 0,.string ⟨#[]⟩,.string ⟨#[]⟩,.slice none 0 0] 81)):=by go_grown
 have kJ:(W.alloc (.cells #[.int .i64 0,.int .i64 0,.string ⟨#[]⟩,.string ⟨#[]⟩,.slice none 0 0] 81)).heap.size=W.heap.size+1:=by simp
 generalize W.alloc (.cells #[.int .i64 0,.int .i64 0,.string ⟨#[]⟩,.string ⟨#[]⟩,.slice none 0 0] 81)=W1 at hBr hbr kJ⊢;have hl1:=HH.out.below hbr;have hrl:=hBr.lt;obtain⟨Ed,HB1,Hbr⟩:=ak hl1 hBr hbr;clear hl1 hBr hbr;clear kJ;go_wp2_with fail;refine(HAT.out _ Hbr.out).mono ?_;rintro e W2 (⟨x,L2,v,hn,rfl,⟨cs,rfl,hX⟩,hl2⟩|⟨k,L2,d2,hn,rfl,hl2,h1,h2⟩);rotate_left
 ·have hx2:R=.error k:=by rw[←HR.out];exact bM hn
  have oW:=Ed.out.trans hl2;obtain⟨Tj,HL2⟩:=aj hx2 oW;clear hx2 oW;clear hl2 hn;go_wp2_with fail;exact⟨rfl,.inr ⟨k,L2,d2,Tj.out,rfl,HL2.out,h1,h2⟩⟩
 have hx2:R=pR (bV f) L2.length x L2:=by rw[←HR.out];exact bI hn
 have hs2:=MC (ji f) _ _ _ hn;have oW:=Ed.out.trans hl2;have hb2:=hl2.grew.jm HB1.out (by omega);have hw2:=hl2.size;obtain⟨A,c,rfl⟩:=dN.form hX;obtain⟨Tj,HL2,HB2,tN⟩:=au hx2 oW hb2 hX;clear hx2 oW hb2 hX;clear hl2 hn HB1 Ed HAT;go_wp2_with fail;have hBx:=Box.made W2 81 #[.int .i64 x.kind,.int .i64 x.n,.string x.bT,.string x.s,.slice A x.args.length c];have hbx:Below W2.heap.size W2 (W2.alloc (.cells #[.int .i64 x.kind,.int .i64 x.n,.string x.bT,.string x.s,.slice A x.args.length c] 81)):=by go_grown
 have hzx:(W2.alloc (.cells #[.int .i64 x.kind,.int .i64 x.n,.string x.bT,.string x.s,.slice A x.args.length c] 81)).heap.size=W2.heap.size+1:=by simp
 generalize W2.alloc (.cells #[.int .i64 x.kind,.int .i64 x.n,.string x.bT,.string x.s,.slice A x.args.length c] 81)=W3 at hBx hbx hzx⊢;have hq:W.heap.size<W2.heap.size:=by omega
 have hd3:Duo b F W W2.heap.size _ _ W3 L2 d:=⟨HL2.out.below hbx,HB2.out.later hbx HB2.out.lt,hBx,hq,hbl⟩;have hX3:=dN.stays.later tN.out hbx cZ;have hw3:=hbx.size;obtain⟨q,hqe⟩:∃q,W2.heap.size=q:=⟨_,rfl⟩;have hfit:Fit W q W3 (fresh W1.heap.size W2.heap.size):=fun k hk=>⟨by have:=hk.1;omega,by have:=hk.2;omega,by have:=hk.2;omega⟩
 rw[hqe]at hd3 hq⊢;obtain⟨HD3,wJ,TG⟩:=ak hd3 hX3 hfit;clear hd3 hX3 hfit;clear hbx hzx hBx HB2 HL2 tN hqe;go_loopg [] L2.length (fun gg wr=>∃(m c:Nat) (A:Option Addr) (x:Ex) (L4:List Token) (G:aV),L4.length≤gg∧L4.length≤m∧L4.length≤200∧Aside (R=pR (bV f) m x L4)∧
  Aside (Duo b F W q #[.int .i64 0,.int .i64 0,.string ⟨#[]⟩,.string ⟨#[]⟩,.slice none 0 0] #[.int .i64 x.kind,.int .i64 x.n,.string x.bT,.string x.s,.slice A x.args.length c] wr L4 d)∧
  Aside (dN wr G [.int .i64 x.kind,.int .i64 x.n,.string x.bT,.string x.s,.slice A x.args.length c] x)∧Aside (Fit W q wr G))
 case atStart=>exact⟨L2.length,c,A,x,L2,_,aJ _,aJ _,by omega,aside Tj.out,aside HD3.out,aside wJ.out,aside TG.out⟩
 case round=>
  clear HD3 wJ TG Tj;obtain⟨m,c,A,x,L4,G,hg,hm,aa3,EO,hd4,GK,Jh⟩:=hrel;obtain⟨W4,rfl⟩:∃W,W=wr:=⟨_,rfl⟩;have htk:=take_any hd4.out.look.start Vt;have qR:=ah htk;clear htk;go_wp2_with fail;refine qR.out.mono ?_;rintro e W5 ⟨z,L5,rfl,hT,hl5⟩;have hd5:=hd4.out.go hl5;have hw5:=hl5.size;have KQ:dN W5 G _ x:=dN.stays _ _ _ _ _ _ GK.out (fun _ h=>h) (dY fun k hk=>hl5.grew.block k (Jh.out k hk).2.2 (fun e=>by injection e with e;have:=(Jh.out k hk).1;omega));have ZM:Fit W q W5 G:=fun k hk=>⟨(Jh.out k hk).1,(Jh.out k hk).2.1,by have:=(Jh.out k hk).2.2;omega⟩
  cases z with
  |false=>
   obtain⟨hT,rfl⟩:=hT.no;have hx5:R=.ok (x,L5):=EO.out.trans (TY hT);have jM:=hd5.res;have qm:=hd5.own;have r0:=jM.at_ 0 _ rfl;have r1:=jM.at_ 1 _ rfl;have r2:=jM.at_ 2 _ rfl;have r3:=jM.at_ 3 _ rfl;have r4:=jM.at_ 4 _ rfl;have g0:=jM.free 0;have g1:=jM.free 1;have g2:=jM.free 2;have g3:=jM.free 3;have g4:=jM.free 4;have x0:=qm.at_ 0 _ rfl;have x1:=qm.at_ 1 _ rfl;have x2:=qm.at_ 2 _ rfl;have x3:=qm.at_ 3 _ rfl;have x4:=qm.at_ 4 _ rfl;obtain⟨Eo,HD5,tN,yS⟩:=au hx5 hd5 KQ ZM;clear hx5 hd5 KQ ZM;clear hl5 jM qm hT qR GK hd4 Jh EO;go_wp2_with fail;refine bodyPost_ret (v:=.agg #[.int .i64 x.kind,.int .i64 x.n,.string x.bT,.string x.s,.slice A x.args.length c]) (by simp[results,results248,go_sem,r0,r1,r2,r3,r4]) rfl ?_;have hnr:¬G W.heap.size:=fun h=>Nat.lt_irrefl _ (yS.out _ h).1
   refine .inl ⟨x,L5,_,Eo.out,rfl,⟨[.int .i64 x.kind,.int .i64 x.n,.string x.bT,.string x.s,.slice A x.args.length c],rfl,dN.stays _ _ _ _ _ _ tN.out ?_ ?_⟩,(((((HD5.out.jI 0 _).jI 1 _).jI 2 _).jI 3 _).jI 4 _).look⟩
   ·simp only[size_set];exact fun k hk=>⟨Nat.le_of_lt (yS.out k hk).1,(yS.out k hk).2.2⟩
   ·exact(((((Keeps.refl _ _).setCell hnr _).setCell hnr _).setCell hnr _).setCell hnr _).setCell hnr _
  |true=>
   have hT:=hT.yes;have ht5:=take_len hT;have hcx:=fun U (hU:Below W5.heap.size W5 U)=>HX.out U L5 d (hd5.below hU).look.start (by omega) hd h0
   have qm:=hd5.own;have x0:=qm.at_ 0 _ rfl;have x1:=qm.at_ 1 _ rfl;have x2:=qm.at_ 2 _ rfl;have x3:=qm.at_ 3 _ rfl;have x4:=qm.at_ 4 _ rfl;obtain⟨HT,xI,HD5,tN,yS⟩:=ay hT hcx hd5 KQ ZM;clear hT hcx hd5 KQ ZM;clear hl5 qm qR GK hd4 Jh;cases hpx:bV f L5 with
   |error k=>
    have hx5:R=.error k:=EO.out.trans (afa HT.out hm hpx);have hne:=fun U hU=>(xI.out U hU).mono (R':=fun e W8=>e=.panicked [iU k]∧∃L8 d8,Look b F W W8 L8 d8∧d≤d8∧d8≤d+1) (fun e W8 hh=>by
     rcases hh with ⟨n,L8,_,h1,_⟩|⟨k',L8,d8,h1,rfl,h3,h4,h5⟩
     ·rw[hpx]at h1;cases h1
     ·rw[hpx]at h1;cases h1;exact⟨rfl,L8,d8,(HD5.out.below hU).look.trans h3,h4,h5⟩)
    obtain⟨TQ,BH⟩:=aj hx5 hne;clear hx5 hne;clear xI hpx EO;go_wp2_with fail;refine kQ [] (fun c W8=>c= [iU k]∧∃L8 d8,Look b F W W8 L8 d8∧d≤d8∧d8≤d+1) ?_ ?_
    ·rintro c ⟨tm,df⟩ W8 rfl ⟨rfl,L8,d8,hr8,h81,h82⟩;exact⟨rfl,.inr ⟨k,L8,d8,TQ.out,rfl,hr8,h81,h82⟩⟩
    refine wp_region_held_drew (S:=fun w'=>w'.cell? ⟨q,0,none⟩=some (.int .i64 x.kind)∧w'.cell? ⟨q,1,none⟩=some (.int .i64 x.n)∧w'.cell? ⟨q,2,none⟩=some (.string x.bT)∧w'.cell? ⟨q,3,none⟩=some (.string x.s)∧w'.cell? ⟨q,4,none⟩=some (.slice A x.args.length c)) (by kernel_rfl) ⟨x0,x1,x2,x3,x4⟩ (fun hHeld=>?_);refine wpAnyH_take (i:=1) (v:= ?_) rfl (by kernel_rfl) (by kernel_rfl) (by kernel_rfl) (fun _ _ _ h=>h) (Or.inl ⟨by rfl,?_⟩) (by assumption) ?_;rotate_left
    ·intro w hSw;(try dsimp only at hSw);go_simp;try with_reducible rfl
    simp only[Act.put,List.setIfInBounds_toArray];refine wpAnyH_take (i:=0) (v:= ?_) rfl (by kernel_rfl) (by kernel_rfl) (by kernel_rfl) (fun _ _ _ h=>h) (Or.inl ⟨by rfl,?_⟩) (by assumption) ?_;rotate_left
    ·intro w hSw;(try dsimp only at hSw);go_simp;try with_reducible rfl
    simp only[Act.put];refine wpAnyH_ready (rs:= [2]) (by kernel_rfl) (by simp) ?_;refine AllReadyH.cons rfl (fun K hK=>?_) AllReadyH.nil;go_simp;refine(BH.out _ (by go_grown)).mono ?_;rintro e W8 ⟨rfl,hh⟩;exact⟨rfl,rfl,hh⟩
   |ok a=>
    obtain⟨y,L6⟩:=a;have hs6:=ji f _ _ _ hpx;have hne:=fun U hU=>(xI.out U hU).mono (R':=fun e W8=>∃A2 c2,e=.returned (.agg #[.int .i64 y.kind,.int .i64 y.n,.string y.bT,.string y.s,.slice A2 y.args.length c2])∧dN W8 (fresh U.heap.size W8.heap.size) [.int .i64 y.kind,.int .i64 y.n,.string y.bT,.string y.s,.slice A2 y.args.length c2] y∧Look b F U W8 L6 d) (fun e W8 hh=>by
     rcases hh with ⟨n,L8,_,h1,rfl,⟨cs,rfl,h2⟩,h3⟩|⟨k',L8,d8,h1,_⟩
     ·rw[hpx]at h1;cases h1;obtain⟨A2,c2,rfl⟩:=dN.form h2;exact⟨A2,c2,rfl,h2,h3⟩
     ·rw[hpx]at h1;cases h1)
    have hqb:q≠b:=by have:=HD5.out.far;omega
    obtain⟨BH,HPX⟩:=aj hne hpx;clear hne hpx;clear xI;go_upto_region 3 with fail
    go_cut [] (fun wc=>∃(A':Option Addr) (c':Nat) (G':aV),Aside (Duo b F W q #[.int .i64 0,.int .i64 0,.string ⟨#[]⟩,.string ⟨#[]⟩,.slice none 0 0] #[.int .i64 7,.int .i64 0,.string ⟨#[]⟩,.string ⟨#[]⟩,.slice A' 2 c'] wc L6 d)∧
     Aside (dN wc G' [.int .i64 7,.int .i64 0,.string mt,.string mt,.slice A' 2 c'] (QF x y))∧Aside (Fit W q wc G'))
    case first=>
     go_region_law(go_simp;go_at_call 197;(with_reducible refine(BH.out _ (by go_grown)).mono ?_);rintro e W8 ⟨A2,c2,rfl,hY,rE⟩;have hd8:=(HD5.out.below (by go_grown)).go rE;have kY:=hd8.own;have x0:=kY.at_ 0 _ rfl;have x1:=kY.at_ 1 _ rfl;have x2:=kY.at_ 2 _ rfl;have x3:=kY.at_ 3 _ rfl;have x4:=kY.at_ 4 _ rfl;have g0:=kY.free 0;have g1:=kY.free 1;have g2:=kY.free 2;have g3:=kY.free 3;have g4:=kY.free 4;have hq8:W8.heap.size≠q:=Nat.ne_of_gt kY.lt;have t0:=fun o=>(kY.alloc o).at_ 0 _ rfl;have t1:=fun o=>(kY.alloc o).at_ 1 _ rfl;have t2:=fun o=>(kY.alloc o).at_ 2 _ rfl;have t3:=fun o=>(kY.alloc o).at_ 3 _ rfl;have t4:=fun o=>(kY.alloc o).at_ 4 _ rfl;have k0:=fun o=>(kY.alloc o).free 0;have k1:=fun o=>(kY.alloc o).free 1;have k2:=fun o=>(kY.alloc o).free 2;have k3:=fun o=>(kY.alloc o).free 3;have k4:=fun o=>(kY.alloc o).free 4;have uY:=Lib.hid hd8;have uZ:=Lib.hid hY;have Ju:=Lib.hid rE;clear hd8 kY hY rE);all_goals
      (try go_wp2_with fail)
      go_meet;have F7:Grew b W5 W8 (some b):=Ju.out.grew.Pg;have hq5:=HD5.out.own.lt;have hX9:=JD 81 tN.out yS.out F7 hbl uZ.out (k:=7) dS.2.2.2.2.2.2.2;have Tn:=yS.out.two F7.size hq5 HD5.out.far (.cells (([.int .i64 x.kind,.int .i64 x.n,.string x.bT,.string x.s,.slice A x.args.length c]:List Value)++([.int .i64 y.kind,.int .i64 y.n,.string y.bT,.string y.s,.slice A2 y.args.length c2]:List Value)).toArray 81);have hnq:¬Js G W5.heap.size W8.heap.size q:=fun h=>(Tn _ h).2.1 rfl
      refine⟨some ⟨W8.heap.size,0,none⟩,2,Js G W5.heap.size W8.heap.size,aside ?_,aside (dN.stays _ _ _ _ _ _ hX9 (fun _ h=>h) ?_),aside ?_⟩
      ·simpa using (((((uY.out.alloc _).ru 0 (.int .i64 7)).ru 1 (.int .i64 0)).ru 2 (.string ⟨#[]⟩)).ru 3 (.string ⟨#[]⟩)).ru 4 (.slice (some ⟨W8.heap.size,0,none⟩) 2 2)
      ·exact(((((Keeps.refl _ _).setCell hnq _).setCell hnq _).setCell hnq _).setCell hnq _).setCell hnq _
      ·intro k hk;simp only[size_set];exact Tn k hk
    case rest=>
     obtain⟨A',c',G',hd9,hX9,Tn⟩:=hcut;obtain⟨W9,rfl⟩:∃W,W=wc:=⟨_,rfl⟩;have hms:=lD hd9.out.look.start Xz;have qj:=ah hms;clear hms;clear x0 x1 x2 x3 x4 BH HD5 tN yS;go_wp2_with fail;refine qj.out.mono ?_;rintro e su ⟨L10,(⟨rfl,abe,nO⟩|⟨rfl,abe,nO⟩)⟩
     ·have qY:R=pR (bV f) (m-1) (QF x y) L10:=EO.out.trans (ahC HT.out hm HPX.out abe);have hd10:=hd9.out.go nO;have KP:dN su G' _ _:=dN.stays _ _ _ _ _ _ hX9.out (fun _ h=>h) (dY fun k hk=>nO.grew.block k (Tn.out k hk).2.2 (fun e=>by injection e with e;have:=(Tn.out k hk).1;omega));have adq:Fit W q su G':=fun k hk=>⟨(Tn.out k hk).1,(Tn.out k hk).2.1,by have:=(Tn.out k hk).2.2;have:=nO.size;omega⟩
      have arf:=take_len abe;obtain⟨vV,sK,aj1,amd⟩:=au qY hd10 KP adq;clear qY hd10 KP adq;clear nO abe hd9 hX9 Tn qj EO;go_wp2_with fail;go_roundg L10.length
      case measure=>omega
      case rel=>exact⟨m-1,c',A',QF x y,L10,G',aJ _,by omega,by omega,aside vV.out,aside sK.out,aside aj1.out,aside amd.out⟩
     ·have qY:R=.error 4:=EO.out.trans (ahB HT.out hm HPX.out abe);have agy:=hd9.out.look.trans nO;obtain⟨vV,amx⟩:=aj qY agy;clear qY agy;clear nO abe;go_wp2_with fail;exact⟨rfl,.inr ⟨4,L10,d,vV.out,rfl,amx.out,Int.le_refl _,by omega⟩⟩
structure CS(b:Nat)(F:aV)(W:World)(q p:Nat)(rc xc:Array Value)(W':World)(L:List Token)(d:Int):Prop where
 room:Room b F W 81 rc q W' L d
 own:Box W' p 81 xc
 Yg:q<p
section
variable {b:Nat} {F:aV} {W:World} {q p:Nat} {rc xc:Array Value} {W' W2:World} {L L2:List Token} {d d2:Int}
theorem CS.go(h:CS b F W q p rc xc W' L d)(k:Look b F W' W2 L2 d2):CS b F W q p rc xc W2 L2 d2:=
 ⟨h.room.go k,k.grew.jm h.own (by have:=h.room.lt;have:=h.room.far;have:=h.Yg;omega),h.Yg⟩
theorem CS.below(h:CS b F W q p rc xc W' L d)(hb:Below W'.heap.size W' W2):CS b F W q p rc xc W2 L d:=
 ⟨h.room.below hb,h.own.later hb h.own.lt,h.Yg⟩
theorem CS.alloc(h:CS b F W q p rc xc W' L d)(o:Obj):CS b F W q p rc xc (W'.alloc o) L d:=h.below ((Below.refl _ _).alloc (aJ _) o)
theorem CS.ru(h:CS b F W q p rc xc W' L d)(i:Nat)(u:Value):CS b F W q p rc (xc.setIfInBounds i u) (W'.setCell ⟨p,i,none⟩ u) L d:=
 ⟨⟨h.room.look.set (by have:=h.room.far;have:=h.Yg;show W.heap.size≤p;omega) h.room.lt u,h.room.res.far (by have:=h.room.far;have:=h.Yg;show W.heap.size≠p;omega) u,h.room.held.far (by have:=h.Yg;show q≠p;omega) u,h.room.far,h.room.lt⟩,h.own.put i u,h.Yg⟩
end
theorem Room.akc{b q:Nat}{F G:aV}{W W':World}{c0 c1 c2 c3 c4:Value}{L:List Token}{d:Int}{x:Ex}{r:Except Int (Ex×List Token)}{tmps:Array Value}(h:Room b F W 81 #[c0,c1,c2,c3,c4] q W' L (d+1))(h0:0≤d)(h1:d≤100)(ht:tmps[2]? =some (.pointer (some ⟨W.heap.size,0,none⟩)))
  (hr:r=.ok (x,L)) (hX:dN W' G [c0,c1,c2,c3,c4] x) (hG:∀k,G k→fresh W.heap.size W'.heap.size k):
  Leaves prog Tryz.f197 tmps (JG (zA dN) b F W W d r) [{ target:=.fn (.func 247) #[.pointer (some ⟨q,0,none⟩)],args:= #[] }] .returning W':=by
 have e:d+1-1=d:=by omega
 refine wS h.look h.held (by omega) (by omega) ?_;rw[e];refine fun hl=>⟨.agg #[c0,c1,c2,c3,c4],?_,.inl ⟨x,L,_,hr,rfl,⟨[c0,c1,c2,c3,c4],rfl,?_⟩,?_⟩⟩
 ·have hb:=h.res.far (p:=⟨b,1,none⟩) (show W.heap.size≠b by have:=h.lt;omega) (.int .i64 d);have b0:=h.res.at_ 0 _ rfl;have b1:=h.res.at_ 1 _ rfl;have b2:=h.res.at_ 2 _ rfl;have b3:=h.res.at_ 3 _ rfl;have b4:=h.res.at_ 4 _ rfl;have a0:=hb.at_ 0 _ rfl;have a1:=hb.at_ 1 _ rfl;have a2:=hb.at_ 2 _ rfl;have a3:=hb.at_ 3 _ rfl;have a4:=hb.at_ 4 _ rfl;simp[results,results197,go_sem,ht,a0,a1,a2,a3,a4]
 ·rw[size_set];exact dN.stays _ _ _ _ _ _ hX hG ((Keeps.refl _ _).setCell (fun hb=>by have h1:W.heap.size≤b:=(hG _ hb).1;have:=h.lt;omega) _)
 ·exact hl
theorem abI{b:Nat}{F:aV}:∀f:Nat,Ei b F f:=by
 intro f
 induction f with
 |zero=>
  intro W L d h hl hd h0;have hdp:=fun U (hU:Below W.heap.size W U)=>xP (h.below hU) h0 (by omega)
  obtain⟨R,hR⟩:∃R,bV 0 L=R:=⟨_,rfl⟩;rw[hR];obtain⟨HDP,HR⟩:=aj hdp hR;clear hdp hR;clear h
  go_enter_defers func197,ntmps197
  go_upto_region 1 with fail
  have hBr:=Box.made W 81 #[.int .i64 0,.int .i64 0,.string ⟨#[]⟩,.string ⟨#[]⟩,.slice none 0 0];have hbr:Below W.heap.size W (W.alloc (.cells #[.int .i64 0,.int .i64 0,.string ⟨#[]⟩,.string ⟨#[]⟩,.slice none 0 0] 81)):=by go_grown
  have kJ:(W.alloc (.cells #[.int .i64 0,.int .i64 0,.string ⟨#[]⟩,.string ⟨#[]⟩,.slice none 0 0] 81)).heap.size=W.heap.size+1:=by simp
  generalize W.alloc (.cells #[.int .i64 0,.int .i64 0,.string ⟨#[]⟩,.string ⟨#[]⟩,.slice none 0 0] 81)=W1 at hBr hbr kJ⊢;have Hb:=ah hbr;clear hbr;clear hBr kJ;go_wp2_with fail;refine(HDP.out _ Hb.out).mono ?_;rintro e W2 (⟨h1,_⟩|⟨_,rfl,hL⟩)
  ·omega
  ·have HL:=Lib.hid hL;clear hL;go_wp2_with fail;exact .inr ⟨1,L,d+1,HR.out.symm,rfl,HL.out,by omega,by omega⟩
 |succ f ih=>
  intro W L d h hl hd h0;have hdp:=fun U (hU:Below W.heap.size W U)=>xP (h.below hU).start h0 (by omega)
  obtain⟨R,hR⟩:∃R,bV (f+1) L=R:=⟨_,rfl⟩;rw[hR];have hbl:=h.lt;have hpo:=fun U L d h hl hd h0=>abK ih U L d h hl hd h0
  obtain⟨HDP,HR,IH,HH,HPO⟩:=ay hdp hR ih h hpo;clear hdp hR ih h hpo
  go_enter_defers func197,ntmps197
  go_upto_region 1 with fail
  have hBr:=Box.made W 81 #[.int .i64 0,.int .i64 0,.string ⟨#[]⟩,.string ⟨#[]⟩,.slice none 0 0];have hbr:Below W.heap.size W (W.alloc (.cells #[.int .i64 0,.int .i64 0,.string ⟨#[]⟩,.string ⟨#[]⟩,.slice none 0 0] 81)):=by go_grown
  have kJ:(W.alloc (.cells #[.int .i64 0,.int .i64 0,.string ⟨#[]⟩,.string ⟨#[]⟩,.slice none 0 0] 81)).heap.size=W.heap.size+1:=by simp
  generalize W.alloc (.cells #[.int .i64 0,.int .i64 0,.string ⟨#[]⟩,.string ⟨#[]⟩,.slice none 0 0] 81)=W1 at hBr hbr kJ⊢;obtain⟨Hb,Eb⟩:=aj hbr hBr;clear hbr hBr;clear kJ;go_wp2_with fail;refine(HDP.out _ Hb.out).mono ?_;rintro e W2 (⟨_,q,rfl,hq,hql,hL⟩|⟨h1,_⟩);rotate_left
  ·omega
  have hr2:Room b F W 81 #[.int .i64 0,.int .i64 0,.string ⟨#[]⟩,.string ⟨#[]⟩,.slice none 0 0] q W2 L (d+1):=⟨(HH.out.below Hb.out).trans hL,hL.grew.jm Eb.out (by omega),hq,Nat.lt_of_lt_of_le Eb.out.lt hql,hbl⟩;have hcp:=HPO.out W2 L (d+1) hr2.start hl (by omega) (by omega);obtain⟨HR2,HCP⟩:=aj hr2 hcp;clear hr2 hcp;clear hL hq hql;go_wp2_with fail;refine HCP.out.mono ?_;rintro e W3 (⟨x,L3,v,hn,rfl,⟨cs,rfl,hX⟩,hl3⟩|⟨k,L3,d3,hn,rfl,hl3,h1,h2⟩);rotate_left
  ·have hx3:R=.error k:=by rw[←HR.out];exact bM hn
   have hr3:=HR2.out.go hl3;obtain⟨wJ,HR3⟩:=aj hx3 hr3;clear hx3 hr3;clear hl3 hn;go_wp2_with fail;exact HR3.out.out wJ.out h0 (by omega) (by omega) (by omega)
  have hx3:R=lT (lq (bV f)) L3.length x L3:=by rw[←HR.out];exact bI hn
  have hs3:=uT (ji f) _ _ _ hn;have hr3:=HR2.out.go hl3;have hw3:=hl3.size;have hw2:=HR2.out.res.lt;have hq3:=hr3.held.lt;have hq2:=HR2.out.held.lt;obtain⟨A,c,rfl⟩:=dN.form hX;obtain⟨wJ,HR3,tN⟩:=ak hx3 hr3 hX;clear hx3 hr3 hX;clear hl3 hn HR2 HCP;go_wp2_with fail;have hBx:=Box.made W3 81 #[.int .i64 x.kind,.int .i64 x.n,.string x.bT,.string x.s,.slice A x.args.length c];have hbx:Below W3.heap.size W3 (W3.alloc (.cells #[.int .i64 x.kind,.int .i64 x.n,.string x.bT,.string x.s,.slice A x.args.length c] 81)):=by go_grown
  have hzx:(W3.alloc (.cells #[.int .i64 x.kind,.int .i64 x.n,.string x.bT,.string x.s,.slice A x.args.length c] 81)).heap.size=W3.heap.size+1:=by simp
  generalize W3.alloc (.cells #[.int .i64 x.kind,.int .i64 x.n,.string x.bT,.string x.s,.slice A x.args.length c] 81)=W4 at hBx hbx hzx⊢;have hd4:CS b F W q W3.heap.size _ _ W4 L3 (d+1):=⟨HR3.out.below hbx,hBx,hq3⟩;have GK:=dN.stays.later tN.out hbx cZ;have hw4:=hbx.size;obtain⟨p,hpe⟩:∃p,W3.heap.size=p:=⟨_,rfl⟩;have hfit:Fit W p W4 (fresh W2.heap.size W3.heap.size):=fun k hk=>⟨by have:=hk.1;omega,by have:=hk.2;omega,by have:=hk.2;omega⟩
  rw[hpe]at hd4 hq3⊢;have hWp:W.heap.size<p:=by have:=HR3.out.far;omega
  obtain⟨HD4,QD,TG⟩:=ak hd4 GK hfit;clear hd4 GK hfit;clear hbx hzx hBx HR3 tN hpe;go_loopg [] L3.length (fun gg wr=>∃(m c:Nat) (A:Option Addr) (x:Ex) (L4:List Token) (G:aV),L4.length≤gg∧L4.length≤m∧L4.length≤200∧Aside (R=lT (lq (bV f)) m x L4)∧
   Aside (CS b F W q p #[.int .i64 0,.int .i64 0,.string ⟨#[]⟩,.string ⟨#[]⟩,.slice none 0 0] #[.int .i64 x.kind,.int .i64 x.n,.string x.bT,.string x.s,.slice A x.args.length c] wr L4 (d+1))∧
   Aside (dN wr G [.int .i64 x.kind,.int .i64 x.n,.string x.bT,.string x.s,.slice A x.args.length c] x)∧Aside (Fit W p wr G))
  case atStart=>exact⟨L3.length,c,A,x,L3,_,aJ _,aJ _,by omega,aside wJ.out,aside HD4.out,aside QD.out,aside TG.out⟩
  case round=>
   clear HD4 QD TG wJ;obtain⟨m,c,A,x,L4,G,hg,hm,aa3,EO,hd4,GK,Jh⟩:=hrel;obtain⟨W4,rfl⟩:∃W,W=wr:=⟨_,rfl⟩;have htk:=take_any hd4.out.room.look.start IQ;have qR:=ah htk;clear htk;go_wp2_with fail;refine qR.out.mono ?_;rintro e W5 ⟨z,L5,rfl,hT,hl5⟩;have hd5:=hd4.out.go hl5;have hw5:=hl5.size;have KQ:dN W5 G _ x:=dN.stays _ _ _ _ _ _ GK.out (fun _ h=>h) (dY fun k hk=>hl5.grew.block k (Jh.out k hk).2.2 (fun e=>by injection e with e;have:=(Jh.out k hk).1;omega));have ZM:Fit W p W5 G:=fun k hk=>⟨(Jh.out k hk).1,(Jh.out k hk).2.1,by have:=(Jh.out k hk).2.2;omega⟩
   cases z with
   |false=>
    obtain⟨hT,rfl⟩:=hT.no;have hx5:R=.ok (x,L5):=EO.out.trans (Qo hT);have jM:=hd5.room.res;have qm:=hd5.own;have r0:=jM.at_ 0 _ rfl;have r1:=jM.at_ 1 _ rfl;have r2:=jM.at_ 2 _ rfl;have r3:=jM.at_ 3 _ rfl;have r4:=jM.at_ 4 _ rfl;have g0:=jM.free 0;have g1:=jM.free 1;have g2:=jM.free 2;have g3:=jM.free 3;have g4:=jM.free 4;have x0:=qm.at_ 0 _ rfl;have x1:=qm.at_ 1 _ rfl;have x2:=qm.at_ 2 _ rfl;have x3:=qm.at_ 3 _ rfl;have x4:=qm.at_ 4 _ rfl;obtain⟨Eo,HD5,tN,yS⟩:=au hx5 hd5 KQ ZM;clear hx5 hd5 KQ ZM;clear hl5 jM qm hT qR GK hd4 Jh EO;go_wp2_with fail;have hnr:¬G W.heap.size:=fun h=>Nat.lt_irrefl _ (yS.out _ h).1
    refine Room.akc (G:=G) (((((HD5.out.room.set 0 _).set 1 _).set 2 _).set 3 _).set 4 _) h0 (by omega) rfl Eo.out (dN.stays _ _ _ _ _ _ tN.out (fun _ h=>h) ?_) ?_
    ·exact(((((Keeps.refl _ _).setCell hnr _).setCell hnr _).setCell hnr _).setCell hnr _).setCell hnr _
    ·simp only[size_set];exact fun k hk=>⟨Nat.le_of_lt (yS.out k hk).1,(yS.out k hk).2.2⟩
   |true=>
    have hT:=hT.yes;have ht5:=take_len hT;have hcx:=fun U (hU:Below W5.heap.size W5 U)=>HPO.out U L5 (d+1) (hd5.below hU).room.look.start (by omega) (by omega) (by omega)
    have qm:=hd5.own;have x0:=qm.at_ 0 _ rfl;have x1:=qm.at_ 1 _ rfl;have x2:=qm.at_ 2 _ rfl;have x3:=qm.at_ 3 _ rfl;have x4:=qm.at_ 4 _ rfl;obtain⟨HT,xI,HD5,tN,yS⟩:=ay hT hcx hd5 KQ ZM;clear hT hcx hd5 KQ ZM;clear hl5 qm qR GK hd4 Jh;cases hpx:lq (bV f) L5 with
    |error k=>
     have hx5:R=.error k:=EO.out.trans (aew HT.out hm hpx);have hne:=fun U hU=>(xI.out U hU).mono (R':=fun e W8=>e=.panicked [iU k]∧∃L8 d8,Room b F W 81 #[.int .i64 0,.int .i64 0,.string ⟨#[]⟩,.string ⟨#[]⟩,.slice none 0 0] q W8 L8 d8∧d+1≤d8∧d8≤d+2) (fun e W8 hh=>by
      rcases hh with ⟨n,L8,_,h1,_⟩|⟨k',L8,d8,h1,rfl,h3,h4,h5⟩
      ·rw[hpx]at h1;cases h1
      ·rw[hpx]at h1;cases h1;exact⟨rfl,L8,d8,(HD5.out.below hU).room.go h3,h4,by omega⟩)
     obtain⟨TQ,BH⟩:=aj hx5 hne;clear hx5 hne;clear xI hpx EO;go_wp2_with fail;refine kQ [{ target:=.fn (.func 247) #[.pointer (some ⟨q,0,none⟩)],args:= #[] }] (fun c W8=>c= [iU k]∧∃L8 d8,Room b F W 81 #[.int .i64 0,.int .i64 0,.string ⟨#[]⟩,.string ⟨#[]⟩,.slice none 0 0] q W8 L8 d8∧d+1≤d8∧d8≤d+2) ?_ ?_
     ·rintro c ⟨tm,df⟩ W8 rfl ⟨rfl,L8,d8,hr8,h81,h82⟩;exact hr8.out TQ.out h0 h81 h82 (by omega)
     refine wp_region_held_drew (S:=fun w'=>w'.cell? ⟨p,0,none⟩=some (.int .i64 x.kind)∧w'.cell? ⟨p,1,none⟩=some (.int .i64 x.n)∧w'.cell? ⟨p,2,none⟩=some (.string x.bT)∧w'.cell? ⟨p,3,none⟩=some (.string x.s)∧w'.cell? ⟨p,4,none⟩=some (.slice A x.args.length c)) (by kernel_rfl) ⟨x0,x1,x2,x3,x4⟩ (fun hHeld=>?_);refine wpAnyH_take (i:=1) (v:= ?_) rfl (by kernel_rfl) (by kernel_rfl) (by kernel_rfl) (fun _ _ _ h=>h) (Or.inl ⟨by rfl,?_⟩) (by assumption) ?_;rotate_left
     ·intro w hSw;(try dsimp only at hSw);go_simp;try with_reducible rfl
     simp only[Act.put,List.setIfInBounds_toArray];refine wpAnyH_take (i:=0) (v:= ?_) rfl (by kernel_rfl) (by kernel_rfl) (by kernel_rfl) (fun _ _ _ h=>h) (Or.inl ⟨by rfl,?_⟩) (by assumption) ?_;rotate_left
     ·intro w hSw;(try dsimp only at hSw);go_simp;try with_reducible rfl
     simp only[Act.put];refine wpAnyH_ready (rs:= [2]) (by kernel_rfl) (by simp) ?_;refine AllReadyH.cons rfl (fun K hK=>?_) AllReadyH.nil;go_simp;refine(BH.out _ (by go_grown)).mono ?_;rintro e W8 ⟨rfl,hh⟩;exact⟨rfl,rfl,hh⟩
    |ok a=>
     obtain⟨y,L6⟩:=a;have hs6:=uT (ji f) _ _ _ hpx;have hne:=fun U hU=>(xI.out U hU).mono (R':=fun e W8=>∃A2 c2,e=.returned (.agg #[.int .i64 y.kind,.int .i64 y.n,.string y.bT,.string y.s,.slice A2 y.args.length c2])∧dN W8 (fresh U.heap.size W8.heap.size) [.int .i64 y.kind,.int .i64 y.n,.string y.bT,.string y.s,.slice A2 y.args.length c2] y∧Look b F U W8 L6 (d+1)) (fun e W8 hh=>by
      rcases hh with ⟨n,L8,_,h1,rfl,⟨cs,rfl,h2⟩,h3⟩|⟨k',L8,d8,h1,_⟩
      ·rw[hpx]at h1;cases h1;obtain⟨A2,c2,rfl⟩:=dN.form h2;exact⟨A2,c2,rfl,h2,h3⟩
      ·rw[hpx]at h1;cases h1)
     have hx6:R=lT (lq (bV f)) (m-1) (sumOf x y) L6:=EO.out.trans (afW HT.out hm hpx);obtain⟨BH,CQ⟩:=aj hne hx6;clear hne hx6;clear xI hpx EO;go_upto_region 4 with fail
     refine wp_region_noPanic ?_;go_region_law(go_simp;go_at_call 248;(with_reducible refine(BH.out _ (by go_grown)).mono ?_);rintro e W8 ⟨A2,c2,rfl,hY,rE⟩;have hd8:=(HD5.out.below (by go_grown)).go rE;have kY:=hd8.own;have x0:=kY.at_ 0 _ rfl;have x1:=kY.at_ 1 _ rfl;have x2:=kY.at_ 2 _ rfl;have x3:=kY.at_ 3 _ rfl;have x4:=kY.at_ 4 _ rfl;have g0:=kY.free 0;have g1:=kY.free 1;have g2:=kY.free 2;have g3:=kY.free 3;have g4:=kY.free 4;have hq8:W8.heap.size≠p:=Nat.ne_of_gt kY.lt;have t0:=fun o=>(kY.alloc o).at_ 0 _ rfl;have t1:=fun o=>(kY.alloc o).at_ 1 _ rfl;have t2:=fun o=>(kY.alloc o).at_ 2 _ rfl;have t3:=fun o=>(kY.alloc o).at_ 3 _ rfl;have t4:=fun o=>(kY.alloc o).at_ 4 _ rfl;have k0:=fun o=>(kY.alloc o).free 0;have k1:=fun o=>(kY.alloc o).free 1;have k2:=fun o=>(kY.alloc o).free 2;have k3:=fun o=>(kY.alloc o).free 3;have k4:=fun o=>(kY.alloc o).free 4;have uY:=Lib.hid hd8;have uZ:=Lib.hid hY;have Ju:=Lib.hid rE;clear hd8 kY hY rE);all_goals
      refine NoPanic.normal ?_
      (try go_wp2_with fail)
      go_roundg L6.length
      case measure=>omega
      case rel=>
       have F7:Grew b W5 W8 (some b):=Ju.out.grew.Pg;have hq5:=HD5.out.own.lt;have hX9:=JD 81 tN.out yS.out F7 hbl uZ.out (k:=5) dS.2.2.2.2.2.1;have Tn:=yS.out.two F7.size hq5 hWp (.cells (([.int .i64 x.kind,.int .i64 x.n,.string x.bT,.string x.s,.slice A x.args.length c]:List Value)++([.int .i64 y.kind,.int .i64 y.n,.string y.bT,.string y.s,.slice A2 y.args.length c2]:List Value)).toArray 81);have hnq:¬Js G W5.heap.size W8.heap.size p:=fun h=>(Tn _ h).2.1 rfl
       refine⟨m-1,2,some ⟨W8.heap.size,0,none⟩,sumOf x y,L6,Js G W5.heap.size W8.heap.size,aJ _,by omega,by omega,aside CQ.out,aside ?_,aside (dN.stays _ _ _ _ _ _ hX9 (fun _ h=>h) ?_),aside ?_⟩
       ·show CS b F W q p _ #[.int .i64 5,.int .i64 0,.string ⟨#[]⟩,.string ⟨#[]⟩,.slice (some ⟨W8.heap.size,0,none⟩) 2 2] _ L6 (d+1)
        simpa using (((((uY.out.alloc _).ru 0 (.int .i64 5)).ru 1 (.int .i64 0)).ru 2 (.string ⟨#[]⟩)).ru 3 (.string ⟨#[]⟩)).ru 4 (.slice (some ⟨W8.heap.size,0,none⟩) 2 2)
       ·exact(((((Keeps.refl _ _).setCell hnq _).setCell hnq _).setCell hnq _).setCell hnq _).setCell hnq _
       ·intro k hk;simp only[size_set];exact Tn k hk
theorem tq:I64 1∧I64 2∧I64 3∧I64 4:=⟨⟨by decide,by decide⟩,⟨by decide,by decide⟩,⟨by decide,by decide⟩,⟨by decide,by decide⟩⟩
theorem kN(w:World)(F:aV){k:Int}{o nm:ByteArray}(hk:I64 k)(ho:okS o)(hn:okS nm):iD w F [.int .i64 k,.string o,.string nm,.slice none 0 0] (.mk k o nm []):=⟨1,_,rfl,hk,ho,hn,SliceOf.nil_⟩
theorem Y0{α:Type}{R:CR α}{sz jZ:Nat}{F:aV}{w:World}{n:Nat}{t:TypeId}{cs:List Value}{x:α}(hB:Box w n t cs.toArray)(hR:R w F cs x)(hc:cs.length=sz)(hF:F n)(hb:jZ≤140737488355328):SliceOf R sz jZ w F (.slice (some ⟨n,0,none⟩) 1 1) [x]:=by
 refine⟨_,1,rfl,aJ _,by unfold maxLen;omega,by simpa using hb,by simp,fun _=>⟨n,0,rfl,hF,fun i y hi=>?_⟩⟩;cases i with
 |succ i=>simp at hi
 |zero=>
  simp only[List.getElem?_cons_zero,Option.some.injEq]at hi;subst hi;refine⟨cs,hc,hR,fun j u hj=>?_⟩;rw[Nat.zero_mul,Nat.add_zero,Nat.zero_add];exact hB.at_ j u (by simpa using hj)
theorem afR{w:World}{F:aV}{cs:List Value}{x:Ty}(h:iD w F cs x):cs.length=4:=by
 obtain⟨A,c,rfl⟩:=iD.form h
 rfl
theorem Vs{w:World}{F:aV}{n:Nat}{t:TypeId}{cs:List Value}{x:Ty}(hB:Box w n t cs.toArray)(hR:iD w F cs x)(hF:F n):iD w F [.int .i64 3,.string mt,.string mt,.slice (some ⟨n,0,none⟩) 1 1] (.mk 3 mt mt [x]):=by
 have hl:=afR hR;obtain⟨m,h⟩:=hR;exact⟨m+1,_,rfl,tq.2.2.1,fP,fP,Y0 hB h hl hF (by decide)⟩
theorem Room.UY{b q:Nat}{F G:aV}{W W':World}{c0 c1 c2 c3:Value}{L:List Token}{d:Int}{x:Ty}{r:Except Int (Ty×List Token)}{tmps:Array Value}(h:Room b F W 75 #[c0,c1,c2,c3] q W' L (d+1))(h0:0≤d)(h1:d≤100)(ht:tmps[2]? =some (.pointer (some ⟨W.heap.size,0,none⟩)))
  (hr:r=.ok (x,L)) (hX:iD W' G [c0,c1,c2,c3] x) (hG:∀k,G k→fresh W.heap.size W'.heap.size k):
  Leaves prog Tryz.f126 tmps (JG (zA iD) b F W W d r) [{ target:=.fn (.func 247) #[.pointer (some ⟨q,0,none⟩)],args:= #[] }] .returning W':=by
 have e:d+1-1=d:=by omega
 refine wS h.look h.held (by omega) (by omega) ?_;rw[e];refine fun hl=>⟨.agg #[c0,c1,c2,c3],?_,.inl ⟨x,L,_,hr,rfl,⟨[c0,c1,c2,c3],rfl,?_⟩,?_⟩⟩
 ·have hb:=h.res.far (p:=⟨b,1,none⟩) (show W.heap.size≠b by have:=h.lt;omega) (.int .i64 d);have b0:=h.res.at_ 0 _ rfl;have b1:=h.res.at_ 1 _ rfl;have b2:=h.res.at_ 2 _ rfl;have b3:=h.res.at_ 3 _ rfl;have a0:=hb.at_ 0 _ rfl;have a1:=hb.at_ 1 _ rfl;have a2:=hb.at_ 2 _ rfl;have a3:=hb.at_ 3 _ rfl;simp[results,results126,go_sem,ht,a0,a1,a2,a3]
 ·rw[size_set];exact iD.stays _ _ _ _ _ _ hX hG ((Keeps.refl _ _).setCell (fun hb=>by have h1:W.heap.size≤b:=(hG _ hb).1;have:=h.lt;omega) _)
 ·exact hl
theorem EH(s:ByteArray):iT s pI=(s.toList== [105,110,116]):=by unfold iT;rw[show pI.toList= [105,110,116]by rw[ByteArray.toList_eq];rfl]
theorem EI(s:ByteArray):iT s nP=(s.toList== [116,101,120,116]):=by unfold iT;rw[show nP.toList= [116,101,120,116]by rw[ByteArray.toList_eq];rfl]
theorem H9{b:Nat}{F:aV}:∀(f:Nat) (W:World) (L:List Token) (d:Int),Look b F W W L d→d+f=40→0≤d→
  Calls prog 126 #[.pointer (some ⟨b,0,none⟩)] W (JG (zA iD) b F W W d (iM f L)):=by
 intro f
 induction f with
 |zero=>
  intro W L d h hd h0;have hdp:=fun U (hU:Below W.heap.size W U)=>xP (h.below hU) h0 (by omega)
  obtain⟨R,hR⟩:∃R,iM 0 L=R:=⟨_,rfl⟩;rw[hR];obtain⟨HDP,HR⟩:=aj hdp hR;clear hdp hR;clear h
  go_enter_defers func126,ntmps126
  go_upto_region 1 with fail
  have hBr:=Box.made W 75 #[.int .i64 0,.string ⟨#[]⟩,.string ⟨#[]⟩,.slice none 0 0];have hbr:Below W.heap.size W (W.alloc (.cells #[.int .i64 0,.string ⟨#[]⟩,.string ⟨#[]⟩,.slice none 0 0] 75)):=by go_grown
  have kJ:(W.alloc (.cells #[.int .i64 0,.string ⟨#[]⟩,.string ⟨#[]⟩,.slice none 0 0] 75)).heap.size=W.heap.size+1:=by simp
  generalize W.alloc (.cells #[.int .i64 0,.string ⟨#[]⟩,.string ⟨#[]⟩,.slice none 0 0] 75)=W1 at hBr hbr kJ⊢;have Hb:=ah hbr;clear hbr;clear hBr kJ;go_wp2_with fail;refine(HDP.out _ Hb.out).mono ?_;rintro e W2 (⟨h1,_⟩|⟨_,rfl,hL⟩)
  ·omega
  ·have HL:=Lib.hid hL;clear hL;go_wp2_with fail;exact .inr ⟨1,L,d+1,HR.out.symm,rfl,HL.out,by omega,by omega⟩
 |succ f ih=>
  intro W L d h hd h0;have hdp:=fun U (hU:Below W.heap.size W U)=>xP (h.below hU).start h0 (by omega)
  obtain⟨R,hR⟩:∃R,iM (f+1) L=R:=⟨_,rfl⟩;rw[hR];have hbl:=h.lt;obtain⟨HDP,HR,IH,HH⟩:=au hdp hR ih h;clear hdp hR ih h
  go_enter_defers func126,ntmps126
  go_upto_region 1 with fail
  have hBr:=Box.made W 75 #[.int .i64 0,.string ⟨#[]⟩,.string ⟨#[]⟩,.slice none 0 0];have hbr:Below W.heap.size W (W.alloc (.cells #[.int .i64 0,.string ⟨#[]⟩,.string ⟨#[]⟩,.slice none 0 0] 75)):=by go_grown
  have kJ:(W.alloc (.cells #[.int .i64 0,.string ⟨#[]⟩,.string ⟨#[]⟩,.slice none 0 0] 75)).heap.size=W.heap.size+1:=by simp
  generalize W.alloc (.cells #[.int .i64 0,.string ⟨#[]⟩,.string ⟨#[]⟩,.slice none 0 0] 75)=W1 at hBr hbr kJ⊢;obtain⟨Hb,Eb⟩:=aj hbr hBr;clear hbr hBr;clear kJ;go_wp2_with fail;refine(HDP.out _ Hb.out).mono ?_;rintro e W2 (⟨_,q,rfl,hq,hql,hL⟩|⟨h1,_⟩);rotate_left
  ·omega
  have hr2:Room b F W _ _ q W2 L (d+1):=⟨(HH.out.below Hb.out).trans hL,hL.grew.jm Eb.out (by omega),hq,Nat.lt_of_lt_of_le Eb.out.lt hql,hbl⟩;have htk:=take_any hr2.start Vt;obtain⟨HR2,qR⟩:=aj hr2 htk;clear hr2 htk;clear hL hq hql;go_wp2_with fail;refine qR.out.mono ?_;rintro e W3 ⟨z,L3,rfl,hT,hl3⟩;have hr3:=HR2.out.go hl3;clear hl3;cases z with
  |true=>
   have hT:=hT.yes;have hk:=IH.out _ _ _ hr3.start (by omega) (by omega);obtain⟨HR3,HT,HK⟩:=ak hr3 hT hk;clear hr3 hT hk;go_wp2_with fail;refine HK.out.mono ?_;rintro e W4 (⟨x,L4,v,hx,rfl,⟨cs,rfl,hX⟩,hl4⟩|⟨k,L4,d4,hx,rfl,hl4,h1,h2⟩)
   ·have hr4:=HR3.out.go hl4;obtain⟨A,c,rfl⟩:=iD.form hX;obtain⟨HR4,HX,tN,AZ⟩:=au hr4 hx hX hl4;clear hr4 hx hX hl4;go_upto_region 4 with fail
    have dX:=((Box.made W4 75 #[.int .i64 x.kind,.string x.bT,.string x.name,.slice A x.args.length c]).alloc (.cells #[.int .i64 3,.string ⟨#[]⟩,.string ⟨#[]⟩,.slice (some ⟨W4.heap.size,0,none⟩) 1 1] 75));have dM:=(Box.made (W4.alloc (.cells #[.int .i64 x.kind,.string x.bT,.string x.name,.slice A x.args.length c] 75)) 75 #[.int .i64 3,.string ⟨#[]⟩,.string ⟨#[]⟩,.slice (some ⟨W4.heap.size,0,none⟩) 1 1]);rw[show(W4.alloc (.cells #[.int .i64 x.kind,.string x.bT,.string x.name,.slice A x.args.length c] 75)).heap.size=W4.heap.size+1 by simp only[World.size_alloc]]at dM;have hbb:Below W4.heap.size W4 ((W4.alloc (.cells #[.int .i64 x.kind,.string x.bT,.string x.name,.slice A x.args.length c] 75)).alloc (.cells #[.int .i64 3,.string ⟨#[]⟩,.string ⟨#[]⟩,.slice (some ⟨W4.heap.size,0,none⟩) 1 1] 75)):=by go_grown
    have hzb:((W4.alloc (.cells #[.int .i64 x.kind,.string x.bT,.string x.name,.slice A x.args.length c] 75)).alloc (.cells #[.int .i64 3,.string ⟨#[]⟩,.string ⟨#[]⟩,.slice (some ⟨W4.heap.size,0,none⟩) 1 1] 75)).heap.size=W4.heap.size+1+1:=by simp only[World.size_alloc]
    generalize(W4.alloc (.cells #[.int .i64 x.kind,.string x.bT,.string x.name,.slice A x.args.length c] 75)).alloc (.cells #[.int .i64 3,.string ⟨#[]⟩,.string ⟨#[]⟩,.slice (some ⟨W4.heap.size,0,none⟩) 1 1] 75)=W5 at dX dM hbb hzb⊢;have jM:=HR4.out.below hbb;have h34:=AZ.out.grew.size;have hb3:=HR3.out.look.lt;have hw3:=HR3.out.look.grew.size;have KQ:iD W5 (fresh W3.heap.size W5.heap.size) _ x:=iD.stays.wider (iD.stays.later tN.out hbb cZ) (jQ (aJ _) hbb.size);have hT5:iD W5 (fresh W3.heap.size W5.heap.size) [.int .i64 3,.string mt,.string mt,.slice (some ⟨W4.heap.size,0,none⟩) 1 1] (.mk 3 mt mt [x]):=Vs dX KQ ⟨h34,dX.lt⟩;have hms:=lD jM.start Xz;have hrl:=dM.lt;obtain⟨Gj,HT5,qj,HB2⟩:=au jM hT5 hms dM;clear jM hT5 hms dM;clear KQ hbb dX tN AZ;go_wp2_with fail;refine qj.out.mono ?_;rintro e W6 ⟨L6,(⟨rfl,hm,nY⟩|⟨rfl,hm,nY⟩)⟩
    ·have rF:=Gj.out.go nY;have Pv:=nY.grew.jm HB2.out (by omega);have hT6:=iD.stays _ _ _ _ _ _ HT5.out (fun _ h=>h) (nY.grew.keeps (n:=W3.heap.size) (m:=W5.heap.size) hb3 (aJ _));have hwr:¬(W3.heap.size≤W.heap.size):=by have:=HR3.out.res.lt;omega
     have hne:W4.heap.size+1≠W.heap.size:=by omega
     have hne2:W.heap.size≠W4.heap.size+1:=by omega
     have hx':R=.ok (.mk 3 mt mt [x],L6):=by
      rw[←HR.out];show iL _ _ _ _=_
      rw[dW HT.out,bI HX.out];rw[bI (iH hm)];rfl
     have hrb:=rF.res;have x0:=Pv.at_ 0 _ rfl;have x1:=Pv.at_ 1 _ rfl;have x2:=Pv.at_ 2 _ rfl;have x3:=Pv.at_ 3 _ rfl;have y0:=hrb.at_ 0 _ rfl;have y1:=hrb.at_ 1 _ rfl;have y2:=hrb.at_ 2 _ rfl;have y3:=hrb.at_ 3 _ rfl;have g0:=hrb.free 0;have g1:=hrb.free 1;have g2:=hrb.free 2;have g3:=hrb.free 3;have hsz:=nY.grew.size;obtain⟨Zt,HT6,CQ⟩:=ak rF hT6 hx';clear rF hT6 hx';clear nY Pv hrb hm;go_wp2_with fail;refine Room.UY (G:=fresh W3.heap.size W5.heap.size) ((((Zt.out.set 0 _).set 1 _).set 2 _).set 3 _) h0 (by omega) rfl CQ.out (iD.stays _ _ _ _ _ _ HT6.out (fun _ h=>h) ?_) ?_
     ·exact(((((Keeps.refl _ _).setCell (fun h=>hwr h.1) _).setCell (fun h=>hwr h.1) _).setCell (fun h=>hwr h.1) _).setCell (fun h=>hwr h.1) _)
     ·simp only[size_set];exact jQ (by omega) (by omega)
    ·have rF:=Gj.out.go nY;have hx':R=.error 4:=by
      rw[←HR.out];show iL _ _ _ _=_
      rw[dW HT.out,bI HX.out,bM (jy hm)]
     obtain⟨Zt,CQ⟩:=aj rF hx';clear rF hx';clear nY hm;go_wp2_with fail;exact Zt.out.out CQ.out h0 (by omega) (by omega) (by omega)
   ·have hr4:=HR3.out.go hl4;have hx':R=.error k:=by rw[←HR.out];show iL _ _ _ _=_;rw[dW HT.out,bM hx]
    obtain⟨HR4,HX⟩:=aj hr4 hx';clear hr4 hx';clear hl4 hx;go_wp2_with fail;exact HR4.out.out HX.out h0 (by omega) (by omega) (by omega)
  |false=>
   obtain⟨hT,rfl⟩:=hT.no;have hnx:=next_any hr3.start hr3.look.lt;have hw:R=uS L3:=by rw[←HR.out];show iL _ _ _ _=_;rw[lg hT]
   obtain⟨HR3,Zr,HW⟩:=ak hr3 hnx hw;clear hr3 hnx hw;clear hT;go_wp2_with fail;refine Zr.out.mono ?_;rintro e W4 ⟨t,L4,rfl,hN,hk,htx,hl4⟩;have hr4:=HR3.out.go hl4;obtain⟨kd,tx⟩:=t;dsimp only at*;go_upto_region 7 with fail
   have hBt:=Box.made W4 182 #[.int .i64 kd,.string tx];have hbt:Below W4.heap.size W4 (W4.alloc (.cells #[.int .i64 kd,.string tx] 182)):=by go_grown
   have pW:(W4.alloc (.cells #[.int .i64 kd,.string tx] 182)).heap.size=W4.heap.size+1:=by simp
   generalize W4.alloc (.cells #[.int .i64 kd,.string tx] 182)=W5 at hBt hbt pW⊢;have jM:=hr4.below hbt;have hrl:=hBt.lt;have hid:=fun U=>iV tx U htx
   obtain⟨z1,hz1⟩:∃z,(aX tx)=z:=⟨_,rfl⟩;rw[hz1]at hid;have Z1:=Lib.hid hz1;clear hz1;have hrb:=jM.res;have x0:=hBt.at_ 0 _ rfl;have x1:=hBt.at_ 1 _ rfl;have y0:=hrb.at_ 0 _ rfl;have y1:=hrb.at_ 1 _ rfl;have y2:=hrb.at_ 2 _ rfl;have y3:=hrb.at_ 3 _ rfl;have g0:=hrb.free 0;have g1:=hrb.free 1;have g2:=hrb.free 2;have g3:=hrb.free 3;have hne:W4.heap.size≠W.heap.size:=by have:=hr4.res.lt;omega
   have hne2:W.heap.size≠W4.heap.size:=fun h=>hne h.symm
   have hnb:W4.heap.size≠b:=by have:=hl4.lt;omega
   obtain⟨HN,BK,Gj,TI,kG⟩:=ay hN htx jM hid hBt;clear hN htx jM hid hBt;clear hl4 hr4 hbt pW hrb;cases hq1:(kd==1)with
   |false=>
    have hx':R=.error 4:=by
     rw[HW.out];rcases HN.out with ⟨rfl,_,_⟩|rfl
     ·rfl
     ·rw[jW,if_pos (by simpa using hq1)]
    have CQ:=ah hx';clear hx';go_wp2_with(first|(go_at_call 71;(with_reducible refine(bF _ _).mono ?_);rintro e w' ⟨rfl,rfl⟩)|(go_at_call 71;(with_reducible refine(bQ _ _).mono ?_);rintro e w' ⟨rfl,rfl⟩));exact Gj.out.out CQ.out h0 (by omega) (by omega) (by omega)
   |true=>
    have hw2:R=uS (⟨kd,tx⟩::L4):=by
     rw[HW.out];rcases HN.out with ⟨_,h,_⟩|rfl
     ·injection h with h1 h2;rw[h1]at hq1;cases hq1
     ·rfl
    rw[jW,if_neg (by simpa using hq1)]at hw2;dsimp only at hw2;rw[EH,EI]at hw2;cases hq2:(tx.toList== [105,110,116])with
    |true=>
     rw[hq2,if_pos rfl]at hw2;have CQ:=ah hw2;clear hw2;go_wp2_with(first|(go_at_call 71;(with_reducible refine(bF _ _).mono ?_);rintro e w' ⟨rfl,rfl⟩));refine Room.UY (G:=none_) ((((Gj.out.set 0 _).set 1 _).set 2 _).set 3 _) h0 (by omega) rfl CQ.out (kN _ _ tq.1 fP fP) (fun k hk=>hk.elim)
    |false=>
     rw[hq2,if_neg (by simp)]at hw2;cases hq3:(tx.toList== [116,101,120,116])with
     |true=>
      rw[hq3,if_pos rfl]at hw2;have CQ:=ah hw2;clear hw2;go_wp2_with(first|(go_at_call 71;(with_reducible refine(bF _ _).mono ?_);rintro e w' ⟨rfl,rfl⟩));refine Room.UY (G:=none_) ((((Gj.out.set 0 _).set 1 _).set 2 _).set 3 _) h0 (by omega) rfl CQ.out (kN _ _ tq.2.1 fP fP) (fun k hk=>hk.elim)
     |false=>
      rw[hq3,if_neg (by simp),Z1.out]at hw2;cases z1 with
      |false=>
       rw[if_pos rfl]at hw2;have CQ:=ah hw2;clear hw2;go_wp2_with(first|(go_at_call 71;(with_reducible refine(bF _ _).mono ?_);rintro e w' ⟨rfl,rfl⟩)|(go_at_call 61;(with_reducible refine(TI.out _).mono ?_);rintro e W6 ⟨rfl,hb6⟩;have Zt:=Lib.hid (Gj.out.below hb6);clear hb6)|(go_at_call 71;(with_reducible refine(bQ _ _).mono ?_);rintro e w' ⟨rfl,rfl⟩));exact Zt.out.out CQ.out h0 (by omega) (by omega) (by omega)
      |true=>
       rw[if_neg (by simp)]at hw2;have aq7:=fun U (hU:Below W5.heap.size W5 U)=>Gj.out.below hU
       have aqL:=fun U (hU:Below W5.heap.size W5 U)=>kG.out.later hU kG.out.lt
       have htk:=fun U (hU:Below W5.heap.size W5 U)=>take_any (Gj.out.below hU).start RY
       obtain⟨CQ,qR⟩:=aj hw2 htk;clear hw2 htk;go_wp2_with(first|(go_at_call 71;(with_reducible refine(bF _ _).mono ?_);rintro e w' ⟨rfl,rfl⟩)|(go_at_call 61;(with_reducible refine(TI.out _).mono ?_);rintro e W6 ⟨rfl,hb6⟩;have HU6:=Lib.hid hb6;clear hb6));refine(qR.out _ HU6.out).mono ?_;rintro e W7 ⟨z2,L7,rfl,hT2,uI⟩;have rF:=Gj.out.below HU6.out;have zx:=rF.go uI;have hbx:=uI.grew.jm (kG.out.later HU6.out kG.out.lt) hnb;have hrb:=zx.res;clear x0 x1 y0 y1 y2 y3 g0 g1 g2 g3;have x0:=hbx.at_ 0 _ rfl;have x1:=hbx.at_ 1 _ rfl;have y0:=hrb.at_ 0 _ rfl;have y1:=hrb.at_ 1 _ rfl;have y2:=hrb.at_ 2 _ rfl;have y3:=hrb.at_ 3 _ rfl;have g0:=hrb.free 0;have g1:=hrb.free 1;have g2:=hrb.free 2;have g3:=hrb.free 3;have hw3:=zx.look.grew.size;cases z2 with
       |true=>
        have hT2:=hT2.yes;have hnm:=fun U (hU:Below W7.heap.size W7 U)=>(name_any (zx.below hU).start (zx.below hU).look.lt).mono (R':=fun e W8=>(∃n L8,fJ L7=.ok (n,L8)∧e=.returned (.string n)∧okS n∧Room b F W _ _ q W8 L8 (d+1)∧Grew b U W8 (some b))∨(∃k L8 d8,fJ L7=.error k∧e=.panicked [iU k]∧Room b F W _ _ q W8 L8 d8∧d+1≤d8∧d8≤d+2)) (fun e W8 hh=>by
         rcases hh with ⟨n,L8,v,h1,rfl,⟨rfl,h2⟩,h3⟩|⟨k,L8,d8,h1,rfl,h3,h4,h5⟩
         ·exact .inl ⟨n,L8,h1,rfl,h2,(zx.below hU).go h3,h3.grew⟩
         ·exact .inr ⟨k,L8,d8,h1,rfl,(zx.below hU).go h3,h4,by omega⟩)
        have hx6:=CQ.out;rw[dW hT2]at hx6;obtain⟨HR7,HT2,Ee,Xv,oq⟩:=ay zx hT2 hnm hx6 hbx;clear zx hT2 hnm hx6 hbx;clear rF uI hrb CQ;cases hpn:fJ L7 with
        |error k=>
         have hk:=Xv.out;rw[bM hpn]at hk;have hne2:=fun U hU=>(Ee.out U hU).mono (R':=fun e W8=>e=.panicked [iU k]∧∃L8 d8,Room b F W _ _ q W8 L8 d8∧d+1≤d8∧d8≤d+2) (fun e W8 hh=>by
          rcases hh with ⟨n,L8,h1,_⟩|⟨k',L8,d8,h1,rfl,h3,h4,h5⟩
          ·rw[hpn]at h1;cases h1
          ·rw[hpn]at h1;cases h1;exact⟨rfl,L8,d8,h3,h4,h5⟩)
         obtain⟨TQ,BH⟩:=aj hk hne2;clear hk hne2;clear Ee hpn;go_wp2_with fail;refine kQ [{ target:=.fn (.func 247) #[.pointer (some ⟨q,0,none⟩)],args:= #[] }] (fun c W8=>c= [iU k]∧∃L8 d8,Room b F W 75 #[.int .i64 0,.string ⟨#[]⟩,.string ⟨#[]⟩,.slice none 0 0] q W8 L8 d8∧d+1≤d8∧d8≤d+2) ?_ ?_
         ·rintro c ⟨tm,df⟩ W8 rfl ⟨rfl,L8,d8,hr8,h81,h82⟩;exact hr8.out TQ.out h0 h81 h82 (by omega)
         refine wp_region_held_drew (S:=fun w'=>w'.cell? ⟨W4.heap.size,1,none⟩=some (.string tx)) (by kernel_rfl) x1 (fun hHeld=>?_);refine wpAnyH_take (i:=0) (v:= ?_) rfl (by kernel_rfl) (by kernel_rfl) (by kernel_rfl) (fun _ _ _ h=>h) (Or.inl ⟨by rfl,?_⟩) (by assumption) ?_;rotate_left
         ·intro w hSw;(try dsimp only at hSw);go_simp;try with_reducible rfl
         simp only[Act.put,List.setIfInBounds_toArray];refine wpAnyH_take (i:=1) (v:= ?_) rfl (by kernel_rfl) (by kernel_rfl) (by kernel_rfl) (fun _ _ _ h=>h) (Or.inl ⟨by rfl,?_⟩) (by assumption) ?_;rotate_left
         ·intro w hSw;(try dsimp only at hSw);go_simp;try with_reducible rfl
         simp only[Act.put];refine wpAnyH_take (i:=2) (v:= ?_) rfl (by kernel_rfl) (by kernel_rfl) (by kernel_rfl) (fun _ _ _ h=>h) (Or.inl ⟨by rfl,?_⟩) (by assumption) ?_;rotate_left
         ·intro w hSw;(try dsimp only at hSw);go_simp;try with_reducible rfl
         simp only[Act.put];refine wpAnyH_ready (rs:= [3]) (by kernel_rfl) (by simp) ?_;refine AllReadyH.cons rfl (fun K hK=>?_) AllReadyH.nil;go_simp;refine(BH.out _ (by go_grown)).mono ?_;rintro e W8 ⟨rfl,hh⟩;exact⟨rfl,rfl,hh⟩
        |ok a=>
         obtain⟨n,L8⟩:=a;have hk:=Xv.out;rw[bI hpn]at hk;have hne2:=fun U hU=>(Ee.out U hU).mono (R':=fun e W8=>e=.returned (.string n)∧okS n∧Room b F W _ _ q W8 L8 (d+1)∧Grew b U W8 (some b)) (fun e W8 hh=>by
          rcases hh with ⟨n',L8',h1,rfl,h3⟩|⟨k',L8',d8,h1,_⟩
          ·rw[hpn]at h1;cases h1;exact⟨rfl,h3⟩
          ·rw[hpn]at h1;cases h1)
         obtain⟨TQ,BH⟩:=aj hk hne2;clear hk hne2;clear Ee hpn;go_wp2_with fail
         go_region_held3(fun w'=>w'.cell? ⟨W4.heap.size,1,none⟩=some (.string tx)) (first|exact x1|exact ZZ.out|(simp[World.cell?_setCell_far,hne2,ZZ.out];done))
          (first|(go_at_call 124;refine(BH.out _ (by go_grown)).mono ?_;rintro e W8 ⟨rfl,hn8,hr8,F7⟩;have z1:=(F7.jm oq.out hnb).at_ 1 _ rfl;have hrb:=hr8.res;have y0:=hrb.at_ 0 _ rfl;have y1:=hrb.at_ 1 _ rfl;have y2:=hrb.at_ 2 _ rfl;have y3:=hrb.at_ 3 _ rfl;have g0:=hrb.free 0;have g1:=hrb.free 1;have g2:=hrb.free 2;have g3:=hrb.free 3;have HR8:=Lib.hid hr8;have HN8:=Lib.hid hn8;have ZZ:=Lib.hid z1;clear hr8 hrb F7 hn8 z1))
         all_goals
          go_wp2_with fail;refine Room.UY (G:=none_) ((((HR8.out.set 0 _).set 1 _).set 2 _).set 3 _) h0 (by omega) rfl TQ.out (kN _ _ tq.2.2.2 BK.out HN8.out) (fun k hk=>hk.elim)
       |false=>
        obtain⟨hT2,rfl⟩:=hT2.no;have hx6:=CQ.out;rw[lg hT2]at hx6;obtain⟨HR7,Xv⟩:=aj zx hx6;clear zx hx6;clear rF uI hrb hbx CQ;go_wp2_with fail;refine Room.UY (G:=none_) ((((HR7.out.set 0 _).set 1 _).set 2 _).set 3 _) h0 (by omega) rfl Xv.out (kN _ _ tq.2.2.2 fP BK.out) (fun k hk=>hk.elim)
structure wG(t:TypeId)(b:Nat)(F:aV)(W:World)(q:Nat)(rc xc:Array Value)(W':World)(L:List Token)(d:Int):Prop where
 look:Look b F W W' L d
 res:Box W' W.heap.size t rc
 own:Box W' q t xc
 far:W.heap.size<q
 lt:b<W.heap.size
section
variable {t:TypeId} {b:Nat} {F:aV} {W:World} {q:Nat} {rc xc:Array Value} {W' W2:World} {L L2:List Token} {d d2:Int}
theorem wG.go(h:wG t b F W q rc xc W' L d)(k:Look b F W' W2 L2 d2):wG t b F W q rc xc W2 L2 d2:=
 ⟨h.look.trans k,k.grew.jm h.res (by have:=h.lt;omega),k.grew.jm h.own (by have:=h.lt;have:=h.far;omega),h.far,h.lt⟩
theorem wG.below(h:wG t b F W q rc xc W' L d)(hb:Below W'.heap.size W' W2):wG t b F W q rc xc W2 L d:=
 ⟨h.look.below hb,h.res.later hb h.res.lt,h.own.later hb h.own.lt,h.far,h.lt⟩
theorem wG.jI(h:wG t b F W q rc xc W' L d)(i:Nat)(u:Value):wG t b F W q (rc.setIfInBounds i u) xc (W'.setCell ⟨W.heap.size,i,none⟩ u) L d:=
 ⟨h.look.set (aJ _) h.lt u,h.res.put i u,h.own.far (by have:=h.far;show q≠W.heap.size;omega) u,h.far,h.lt⟩
theorem wG.ru(h:wG t b F W q rc xc W' L d)(i:Nat)(u:Value):wG t b F W q rc (xc.setIfInBounds i u) (W'.setCell ⟨q,i,none⟩ u) L d:=
 ⟨h.look.set (Nat.le_of_lt h.far) h.lt u,h.res.far (by have:=h.far;show W.heap.size≠q;omega) u,h.own.put i u,h.far,h.lt⟩
theorem wG.grown(h:wG t b F W q rc xc W' L d){base:Nat}{row:Option Nat}(hg:Grew base W' W2 row)(hq:q<base):wG t b F W q rc xc W2 L d:=
 ⟨h.look.then_ ⟨hg.os,hg.tape,hg.output,hg.size,hg.block,fun k hk=>by have:=hg.low k hk;have:=h.far;omega⟩ h.lt,hg.box h.res (by have:=h.far;omega),hg.box h.own hq,h.far,h.lt⟩
end
theorem aZ.AO{α:Type}{R:CR α}{sz base:Nat}{e:TypeId}{F:aV}{w:World}{v:Value}{l:List α}(hR:eH R)(h:aZ R sz e base w F v l){p:Addr}(hF:∀k,F k→k≠p.block)(hrow:∀k,v.ownBlock=some k→k≠p.block)(u:Value):aZ R sz e base (w.setCell p u) F v l:=
 h.kept hR (by rw[size_set];exact aJ _) fun k _ hk=>Below.heap_setCell _ _ _ _ (hk.elim (hF k) (hrow k))
theorem sZ{w:World}{F:aV}{cs:List Value}{x:Field}(h:aQ w F cs x):∀u∈cs,u.oneCell'=true:=by
 obtain⟨tc,rfl,_,ht⟩:=h;obtain⟨A,c,rfl⟩:=iD.form ht;intro u hu;simp only[List.mem_cons,List.not_mem_nil,or_false]at hu;rcases hu with rfl|rfl|rfl|rfl|rfl<;>rfl
theorem aeo {b : Nat} {F : aV} (W : World) (L : List Token) (h : Look b F W W L 0) (hl : L.length ≤ 200) :
    Calls prog 127 #[.pointer (some ⟨b, 0, none⟩)] W (JG (zA dF) b F W W 0 (xw L)) := by
  obtain ⟨R, hR⟩ : ∃ R, xw L = R := ⟨_, rfl⟩
  rw [hR]
  have hbl := h.lt
  have hnm := fun U (hU : Below W.heap.size W U) => name_any (h.below hU).start (h.below hU).lt
  have HR := Lib.hid hR; have HH := Lib.hid h; have Ee := Lib.hid hnm
  clear hR h hnm
  go_enter func127, ntmps127
  go_upto_region 1 with fail
  have hBr := Box.made W 83 #[.string ⟨#[]⟩, .string ⟨#[]⟩, .slice none 0 0, .int .i64 0, .string ⟨#[]⟩, .string ⟨#[]⟩, .slice none 0 0, .int .i64 0, .int .i64 0, .string ⟨#[]⟩, .string ⟨#[]⟩, .slice none 0 0]
  have hbr : Below W.heap.size W (W.alloc (.cells #[.string ⟨#[]⟩, .string ⟨#[]⟩, .slice none 0 0, .int .i64 0, .string ⟨#[]⟩, .string ⟨#[]⟩, .slice none 0 0, .int .i64 0, .int .i64 0, .string ⟨#[]⟩, .string ⟨#[]⟩, .slice none 0 0] 83)) := by go_grown
  have kJ : (W.alloc (.cells #[.string ⟨#[]⟩, .string ⟨#[]⟩, .slice none 0 0, .int .i64 0, .string ⟨#[]⟩, .string ⟨#[]⟩, .slice none 0 0, .int .i64 0, .int .i64 0, .string ⟨#[]⟩, .string ⟨#[]⟩, .slice none 0 0] 83)).heap.size = W.heap.size + 1 := by simp
  generalize W.alloc (.cells #[.string ⟨#[]⟩, .string ⟨#[]⟩, .slice none 0 0, .int .i64 0, .string ⟨#[]⟩, .string ⟨#[]⟩, .slice none 0 0, .int .i64 0, .int .i64 0, .string ⟨#[]⟩, .string ⟨#[]⟩, .slice none 0 0] 83) = W1 at hBr hbr kJ ⊢
  have hl1 := HH.out.below hbr
  have hrl := hBr.lt
  have Ed := Lib.hid hl1; have HB1 := Lib.hid hBr; have Hbr := Lib.hid hbr
  clear hl1 hBr hbr
  clear kJ
  go_wp2_with fail
  refine (Ee.out _ Hbr.out).mono ?_
  rintro e W2 (⟨n, L2, v, hn, rfl, ⟨rfl, hno⟩, hl2⟩ | ⟨k, L2, d2, hn, rfl, hl2, h1, h2⟩)
  rotate_left
  · have hx2 : R = .error k := by rw [← HR.out, LX]; exact bM hn
    have oW := Ed.out.trans hl2
    have Tj := Lib.hid hx2; have HL2 := Lib.hid oW
    clear hx2 oW
    clear hl2 hn
    go_wp2_with fail
    exact ⟨rfl, .inr ⟨k, L2, d2, Tj.out, rfl, HL2.out, h1, h2⟩⟩
  have hx2 : R = aO Vo (qF n) L2 := by rw [← HR.out, LX]; exact bI hn
  have hs2 := qH _ _ _ hn
  have oW := Ed.out.trans hl2
  have hb2 := hl2.grew.jm HB1.out (by omega)
  have hw2 := hl2.size
  have Tj := Lib.hid hx2; have HL2 := Lib.hid oW; have HB2 := Lib.hid hb2; have HNO := Lib.hid hno
  clear hx2 oW hb2 hno
  clear hl2 hn HB1 Ed Ee
  go_upto_region 2 with fail
  have yT := Box.made W2 83 #[.string n, .string ⟨#[]⟩, .slice none 0 0, .int .i64 0, .string ⟨#[]⟩, .string ⟨#[]⟩, .slice none 0 0, .int .i64 0, .int .i64 0, .string ⟨#[]⟩, .string ⟨#[]⟩, .slice none 0 0]
  have hbf : Below W2.heap.size W2 (W2.alloc (.cells #[.string n, .string ⟨#[]⟩, .slice none 0 0, .int .i64 0, .string ⟨#[]⟩, .string ⟨#[]⟩, .slice none 0 0, .int .i64 0, .int .i64 0, .string ⟨#[]⟩, .string ⟨#[]⟩, .slice none 0 0] 83)) := by go_grown
  have Jk : (W2.alloc (.cells #[.string n, .string ⟨#[]⟩, .slice none 0 0, .int .i64 0, .string ⟨#[]⟩, .string ⟨#[]⟩, .slice none 0 0, .int .i64 0, .int .i64 0, .string ⟨#[]⟩, .string ⟨#[]⟩, .slice none 0 0] 83)).heap.size = W2.heap.size + 1 := by simp
  generalize W2.alloc (.cells #[.string n, .string ⟨#[]⟩, .slice none 0 0, .int .i64 0, .string ⟨#[]⟩, .string ⟨#[]⟩, .slice none 0 0, .int .i64 0, .int .i64 0, .string ⟨#[]⟩, .string ⟨#[]⟩, .slice none 0 0] 83) = W3 at yT hbf Jk ⊢
  have hd3 : wG 83 b F W W2.heap.size #[.string ⟨#[]⟩, .string ⟨#[]⟩, .slice none 0 0, .int .i64 0, .string ⟨#[]⟩, .string ⟨#[]⟩, .slice none 0 0, .int .i64 0, .int .i64 0, .string ⟨#[]⟩, .string ⟨#[]⟩, .slice none 0 0] #[.string n, .string ⟨#[]⟩, .slice none 0 0, .int .i64 0, .string ⟨#[]⟩, .string ⟨#[]⟩, .slice none 0 0, .int .i64 0, .int .i64 0, .string ⟨#[]⟩, .string ⟨#[]⟩, .slice none 0 0] W3 L2 0 :=
    ⟨HL2.out.below hbf, HB2.out.later hbf HB2.out.lt, yT, by omega, hbl⟩
  obtain ⟨q, hqe⟩ : ∃ q, W2.heap.size = q := ⟨_, rfl⟩
  rw [hqe] at hd3 ⊢
  have htk := take_any hd3.look.start sLt
  have HD3 := Lib.hid hd3; have qR := Lib.hid htk
  clear hd3 htk
  clear hbf Jk yT HB2 HL2 hw2 hqe
  go_wp2_with fail
  refine qR.out.mono ?_
  rintro e W4 ⟨z, L4, rfl, hT, hl4⟩
  have hd4 := HD3.out.go hl4
  have HD4 := Lib.hid hd4
  clear hd4
  clear hl4 HD3
  go_upto_if 9 with (fail)
  go_cut [] (fun wc => ∃ (L' : List Token) (v : ByteArray), L'.length ≤ 200 ∧ okS v ∧ Aside (R = qF n v L') ∧ Aside (wG 83 b F W q #[.string ⟨#[]⟩, .string ⟨#[]⟩, .slice none 0 0, .int .i64 0, .string ⟨#[]⟩, .string ⟨#[]⟩, .slice none 0 0, .int .i64 0, .int .i64 0, .string ⟨#[]⟩, .string ⟨#[]⟩, .slice none 0 0] #[.string n, .string v, .slice none 0 0, .int .i64 0, .string ⟨#[]⟩, .string ⟨#[]⟩, .slice none 0 0, .int .i64 0, .int .i64 0, .string ⟨#[]⟩, .string ⟨#[]⟩, .slice none 0 0] wc L' 0))
  case first =>
    cases z with
    | false =>
      obtain ⟨hT, rfl⟩ := hT.no
      have hx4 : R = qF n mt L4 := Tj.out.trans (bI (lg hT))
      have QD := Lib.hid hx4
      clear hx4
      clear hT
      go_wp2_with fail
      go_meet
      exact ⟨L4, mt, by omega, fP, aside QD.out, aside HD4.out⟩
    | true =>
      have hT := hT.yes
      have ht4 := take_len hT
      have hnm := name_any HD4.out.look.start HD4.out.look.lt
      have HT := Lib.hid hT; have Ee := Lib.hid hnm
      clear hT hnm
      go_wp2_with fail
      refine Ee.out.mono ?_
      rintro e W5 (⟨v, L5, _, hn, rfl, ⟨rfl, hvo⟩, hl5⟩ | ⟨k, L5, d5, hn, rfl, hl5, h1, h2⟩)
      · have hd5 := HD4.out.go hl5
        have hs5 := qH _ _ _ hn
        have qm := hd5.own
        have x1 := qm.at_ 1 _ rfl
        have g1 := qm.free 1
        have HD5 := Lib.hid hd5
        clear hd5
        clear hl5 qm
        go_upto_region 4 with fail
        have hd6 := HD5.out.ru 1 (.string v)
        simp only [List.setIfInBounds_toArray, List.set_cons_zero, List.set_cons_succ] at hd6
        generalize W5.setCell ⟨q, 1, none⟩ (.string v) = W6 at hd6 ⊢
        have hms := lD hd6.look.start sGt
        have HD6 := Lib.hid hd6; have qj := Lib.hid hms; have HN := Lib.hid hn; have HVO := Lib.hid hvo
        clear hd6 hms hn hvo
        clear x1 g1
        go_wp2_with fail
        refine qj.out.mono ?_
        rintro e W7 ⟨L7, (⟨rfl, QX, uI⟩ | ⟨rfl, QX, uI⟩)⟩
        · have hx7 : R = qF n v L7 := by
            refine Tj.out.trans (bI ?_)
            show iL _ _ _ _ = _
            rw [dW HT.out, bI HN.out, bI (iH QX)]; rfl
          have ht7 := take_len QX
          have hd7 := HD6.out.go uI
          have Xv := Lib.hid hx7; have HD7 := Lib.hid hd7
          clear hx7 hd7
          clear uI QX
          go_wp2_with fail
          go_meet
          exact ⟨L7, v, by omega, HVO.out, aside Xv.out, aside HD7.out⟩
        · have hx7 : R = .error 4 := by
            refine Tj.out.trans (bM ?_)
            show iL _ _ _ _ = _
            rw [dW HT.out, bI HN.out, bM (jy QX)]
          have hd7 := HD6.out.go uI
          have Xv := Lib.hid hx7; have HD7 := Lib.hid hd7
          clear hx7 hd7
          clear uI QX
          go_wp2_with fail
          exact ⟨rfl, .inr ⟨4, L7, 0, Xv.out, rfl, HD7.out.look, Int.le_refl _, by omega⟩⟩
      · have hx5 : R = .error k := by
          refine Tj.out.trans (bM ?_)
          show iL _ _ _ _ = _
          rw [dW HT.out, bM hn]
        have hd5 := HD4.out.go hl5
        have Eo := Lib.hid hx5; have HD5 := Lib.hid hd5
        clear hx5 hd5
        clear hl5 hn
        go_wp2_with fail
        exact ⟨rfl, .inr ⟨k, L5, d5, Eo.out, rfl, HD5.out.look, h1, h2⟩⟩
  case rest =>
  obtain ⟨L5, v, hl5, hvo, hx5, hd5⟩ := hcut
  obtain ⟨W5, rfl⟩ : ∃ W, W = wc := ⟨_, rfl⟩
  have hms := lD hd5.out.look.start Y4
  have qj := Lib.hid hms; have HVO := Lib.hid hvo
  clear hms hvo
  clear HD4 qR Tj
  go_wp2_with fail
  refine qj.out.mono ?_
  rintro e W6 ⟨L6, (⟨rfl, F9, nY⟩ | ⟨rfl, F9, nY⟩)⟩
  rotate_left
  · have hx6 : R = .error 4 := hx5.out.trans (bM (jy F9))
    have hd6 := hd5.out.go nY
    have CQ := Lib.hid hx6; have HD6 := Lib.hid hd6
    clear hx6 hd6
    clear nY F9
    go_wp2_with fail
    exact ⟨rfl, .inr ⟨4, L6, 0, CQ.out, rfl, HD6.out.look, Int.le_refl _, by omega⟩⟩
  have hx6 : R = aO (fun l => jF (l.length + 1) [] l) (rW n v) L6 := hx5.out.trans (bI (iH F9))
  have hd6 := hd5.out.go nY
  have ht6 := take_len F9
  obtain ⟨M, hM⟩ : ∃ M, jF (L6.length + 1) [] L6 = M := ⟨_, rfl⟩
  have hme : ∀ k, M = .error k → R = .error k := fun k hk => hx6.trans (bM (hM.trans hk))
  have hmo : ∀ ps L7, M = .ok (ps, L7) → R = rW n v ps L7 := fun ps L7 hk => hx6.trans (bI (hM.trans hk))
  have hq6 := hd6.own.lt
  obtain ⟨B, hB⟩ : ∃ B, W6.heap.size = B := ⟨_, rfl⟩
  have HME := Lib.hid hme; have HMO := Lib.hid hmo; have HM := Lib.hid hM; have HD6 := Lib.hid hd6; have XC := Lib.hid hB
  clear hme hmo hM hd6 hB
  clear nY F9 hx5 hd5 hx6 qj
  go_wp2_with fail
  go_loopg [] L6.length (fun gg wr => ∃ (m c : Nat) (A : Option Addr) (ps : List Field) (L7 : List Token) (G : aV), L7.length ≤ gg ∧ L7.length ≤ m ∧ L7.length ≤ 200 ∧ ps.length + L7.length ≤ 201 ∧ Aside (M = jF (m + 1) ps L7) ∧
    Aside (wG 83 b F W q #[.string ⟨#[]⟩, .string ⟨#[]⟩, .slice none 0 0, .int .i64 0, .string ⟨#[]⟩, .string ⟨#[]⟩, .slice none 0 0, .int .i64 0, .int .i64 0, .string ⟨#[]⟩, .string ⟨#[]⟩, .slice none 0 0] #[.string n, .string v, .slice A ps.length c, .int .i64 0, .string ⟨#[]⟩, .string ⟨#[]⟩, .slice none 0 0, .int .i64 0, .int .i64 0, .string ⟨#[]⟩, .string ⟨#[]⟩, .slice none 0 0] wr L7 0) ∧
    Aside (aZ aQ 5 78 B wr G (.slice A ps.length c) ps) ∧ Aside (∀ k, G k → B ≤ k) ∧ Aside (B ≤ wr.heap.size))
  case atStart => exact ⟨L6.length, 0, none, [], L6, none_, aJ _, aJ _, by omega, by simp; omega, aside HM.out.symm, aside HD6.out, aside aZ.nil_, aside (fun k hk => hk.elim), aside (by have := XC.out; omega)⟩
  case round =>
    clear HD6 HM
    obtain ⟨m, c, A, ps, L7, G, hg, hm, aa3, ahG, hM7, hd7, xY, hG7, xX⟩ := hrel
    obtain ⟨W7, rfl⟩ : ∃ W, W = wr := ⟨_, rfl⟩
    have xX := xX.out
    have htk := take_any hd7.out.look.start Qe
    have qR := Lib.hid htk
    clear htk
    go_wp2_with fail
    refine qR.out.mono ?_
    rintro e W8 ⟨z, L8, rfl, hT, rE⟩
    have hd8 := hd7.out.go rE
    have tX := xY.out.read aQ.stays rE.grew (by have := XC.out; have := hd7.out.lt; have := hd7.out.far; omega) hG7.out
    have hB8 := rE.size
    cases z with
    | true =>
      have hx8 : R = rW n v ps L8 := HMO.out _ _ (hM7.out.trans (P5 hT.yes))
      have ht8 := take_len hT.yes
      have hms := lD hd8.look.start rX
      have TQ := Lib.hid hx8; have uY := Lib.hid hd8; have vU := Lib.hid tX; have wI := Lib.hid hG7; have qj := Lib.hid hms
      clear hx8 hd8 tX hG7 hms
      clear rE hd7 xY hM7 hT qR
      go_wp2_with fail
      refine qj.out.mono ?_
      rintro e W9 ⟨L9, (⟨rfl, hm9, F8⟩ | ⟨rfl, hm9, F8⟩)⟩
      rotate_left
      · have Ri : R = .error 4 := TQ.out.trans (bM (jy hm9))
        have hd9 := uY.out.go F8
        have Zw := Lib.hid Ri; have qw := Lib.hid hd9
        clear Ri hd9
        clear F8 hm9
        go_wp2_with fail
        exact ⟨rfl, .inr ⟨4, L9, 0, Zw.out, rfl, qw.out.look, Int.le_refl _, by omega⟩⟩
      have Ri := TQ.out.trans (bI (iH hm9))
      have hd9 := uY.out.go F8
      have qA := vU.out.read aQ.stays F8.grew (by have := XC.out; have := uY.out.lt; have := uY.out.far; omega) wI.out
      have ht9 := take_len hm9
      have hB9 := F8.size
      have hkd := H9 40 W9 L9 0 hd9.look.start (by omega) (by omega)
      have Zw := Lib.hid Ri; have qw := Lib.hid hd9; have zn := Lib.hid qA; have HKD := Lib.hid hkd
      clear Ri hd9 qA hkd
      clear F8 hm9 qj uY vU TQ
      go_wp2_with fail
      refine HKD.out.mono ?_
      rintro e su (⟨ty, L10, _, hn, rfl, ⟨cs, rfl, hY⟩, nO⟩ | ⟨k, L10, d10, hn, rfl, nO, h1, h2⟩)
      rotate_left
      · have qY : R = .error k := Zw.out.trans (bM hn)
        have hd10 := qw.out.go nO
        have vV := Lib.hid qY; have sK := Lib.hid hd10
        clear qY hd10
        clear nO hn
        go_wp2_with fail
        exact ⟨rfl, .inr ⟨k, L10, d10, vV.out, rfl, sK.out.look, h1, h2⟩⟩
      have qY := Zw.out.trans (bI hn)
      have hd10 := qw.out.go nO
      have Dk := zn.out.read aQ.stays nO.grew (by have := XC.out; have := qw.out.lt; have := qw.out.far; omega) wI.out
      have hs10 := yG 40 _ _ _ hn
      have ahJ := nO.size
      obtain ⟨A2, c2, rfl⟩ := iD.form hY
      have yg := hd10.own
      have hBE := XC.out
      have x3 := yg.at_ 3 _ rfl
      have x4 := yg.at_ 4 _ rfl
      have x5 := yg.at_ 5 _ rfl
      have x6 := yg.at_ 6 _ rfl
      have g3 := yg.free 3
      have g4 := yg.free 4
      have g5 := yg.free 5
      have g6 := yg.free 6
      have vV := Lib.hid qY; have sK := Lib.hid hd10; have JM := Lib.hid Dk; have uZ := Lib.hid hY
      clear qY hd10 Dk hY
      clear nO hn HKD qw zn Zw yg
      go_upto_region 15 with fail
      have hd11 := (((sK.out.ru 3 (.int .i64 ty.kind)).ru 4 (.string ty.bT)).ru 5 (.string ty.name)).ru 6 (.slice A2 ty.args.length c2)
      simp only [List.setIfInBounds_toArray, List.set_cons_zero, List.set_cons_succ] at hd11
      have GH := (((JM.out.set aQ.stays (p := ⟨q, 3, none⟩) (by show q < B; omega) (fun k hk => by have := wI.out k hk; show k ≠ q; omega) (.int .i64 ty.kind)).set aQ.stays (p := ⟨q, 4, none⟩) (by show q < B; omega) (fun k hk => by have := wI.out k hk; show k ≠ q; omega) (.string ty.bT)).set aQ.stays (p := ⟨q, 5, none⟩) (by show q < B; omega) (fun k hk => by have := wI.out k hk; show k ≠ q; omega) (.string ty.name)).set aQ.stays (p := ⟨q, 6, none⟩) (by show q < B; omega) (fun k hk => by have := wI.out k hk; show k ≠ q; omega) (.slice A2 ty.args.length c2)
      have hqk : ¬ fresh W9.heap.size su.heap.size q := fun h => by have := h.1; omega
      have Yn := iD.stays _ _ _ _ _ _ uZ.out (fun _ h => h) (((((Keeps.refl _ _).setCell (q := ⟨q, 3, none⟩) hqk (.int .i64 ty.kind)).setCell (q := ⟨q, 4, none⟩) hqk (.string ty.bT)).setCell (q := ⟨q, 5, none⟩) hqk (.string ty.name)).setCell (q := ⟨q, 6, none⟩) hqk (.slice A2 ty.args.length c2))
      have QN : ((((su.setCell ⟨q, 3, none⟩ (.int .i64 ty.kind)).setCell ⟨q, 4, none⟩ (.string ty.bT)).setCell ⟨q, 5, none⟩ (.string ty.name)).setCell ⟨q, 6, none⟩ (.slice A2 ty.args.length c2)).heap.size = su.heap.size := by simp only [size_set]
      generalize (((su.setCell ⟨q, 3, none⟩ (.int .i64 ty.kind)).setCell ⟨q, 4, none⟩ (.string ty.bT)).setCell ⟨q, 5, none⟩ (.string ty.name)).setCell ⟨q, 6, none⟩ (.slice A2 ty.args.length c2) = W11 at hd11 GH Yn QN ⊢
      have hms := lD hd11.look.start sEq
      have zk := Lib.hid hd11; have JO := Lib.hid GH; have acQ := Lib.hid Yn; have qj := Lib.hid hms; have CP := Lib.hid QN
      clear hd11 GH Yn hms QN
      clear x3 x4 x5 x6 g3 g4 g5 g6 uZ JM sK
      go_wp2_with fail
      refine qj.out.mono ?_
      rintro e J4 ⟨L12, (⟨rfl, GN, hl12⟩ | ⟨rfl, GN, hl12⟩)⟩
      rotate_left
      · have Le : R = .error 4 := vV.out.trans (bM (jy GN))
        have pz := zk.out.go hl12
        have JY := Lib.hid Le; have rJ := Lib.hid pz
        clear Le pz
        clear hl12 GN
        go_wp2_with fail
        exact ⟨rfl, .inr ⟨4, L12, 0, JY.out, rfl, rJ.out.look, Int.le_refl _, by omega⟩⟩
      have Le := vV.out.trans (bI (iH GN))
      have pz := zk.out.go hl12
      have hbB : b < B := by have := zk.out.lt; have := zk.out.far; omega
      have KN := JO.out.read aQ.stays hl12.grew hbB wI.out
      have adB := iD.stays _ _ _ _ _ _ acQ.out (fun _ h => h) (hl12.grew.keeps (n := W9.heap.size) (m := su.heap.size) (by omega) (by have := CP.out; omega))
      have aol := take_len GN
      have ahK := hl12.size
      have hex := abI 40 J4 L12 0 pz.look.start (by omega) (by omega) (by omega)
      have JY := Lib.hid Le; have rJ := Lib.hid pz; have JQ := Lib.hid KN; have acR := Lib.hid adB; have HEX := Lib.hid hex
      clear Le pz KN adB hex
      clear hl12 GN qj zk JO vV acQ
      go_wp2_with fail
      refine HEX.out.mono ?_
      rintro e vg (⟨ex, L13, _, hn, rfl, ⟨cs, rfl, hZ⟩, pF⟩ | ⟨k, L13, d13, hn, rfl, pF, h1, h2⟩)
      rotate_left
      · have Lh : R = .error k := JY.out.trans (bM hn)
        have rQ := rJ.out.go pF
        have QC := Lib.hid Lh; have qc := Lib.hid rQ
        clear Lh rQ
        clear pF hn
        go_wp2_with fail
        exact ⟨rfl, .inr ⟨k, L13, d13, QC.out, rfl, qc.out.look, h1, h2⟩⟩
      have Lh : R = .ok (⟨n, v, ps, ty, ex⟩, L13) := JY.out.trans (bI hn)
      have rQ := rJ.out.go pF
      have GI := JQ.out.read aQ.stays pF.grew hbB wI.out
      have adC := iD.stays _ _ _ _ _ _ acR.out (fun _ h => h) (pF.grew.keeps (n := W9.heap.size) (m := su.heap.size) (by omega) (by have := CP.out; omega))
      have ahL := pF.size
      obtain ⟨A3, c3, rfl⟩ := dN.form hZ
      have uK := rQ.own
      have aii := rQ.res
      have anQ := CP.out
      have hps : SliceOf aQ 5 80 vg (fresh B vg.heap.size) (.slice A ps.length c) ps := GI.slice aQ.stays (fun k hk => ⟨wI.out k hk, (GI.foot hk).1⟩) (fun k h1 h2 => ⟨h1, h2⟩) (by omega) (by omega)
      have hrB : W.heap.size < B := by have := rJ.out.far; omega
      have x7 := uK.at_ 7 _ rfl
      have x8 := uK.at_ 8 _ rfl
      have x9 := uK.at_ 9 _ rfl
      have x10 := uK.at_ 10 _ rfl
      have x11 := uK.at_ 11 _ rfl
      have g7 := uK.free 7
      have g8 := uK.free 8
      have g9 := uK.free 9
      have g10 := uK.free 10
      have g11 := uK.free 11
      have QC := Lib.hid Lh; have qc := Lib.hid rQ; have HPS := Lib.hid hps; have ahv := Lib.hid adC; have ahw := Lib.hid hZ
      clear Lh rQ hps adC hZ
      clear pF hn HEX rJ JQ JY acR uK aii GI
      go_upto_region 17 with fail
      have uH := ((((qc.out.ru 7 (.int .i64 ex.kind)).ru 8 (.int .i64 ex.n)).ru 9 (.string ex.bT)).ru 10 (.string ex.s)).ru 11 (.slice A3 ex.args.length c3)
      simp only [List.setIfInBounds_toArray, List.set_cons_zero, List.set_cons_succ] at uH
      have hnq : ∀ m, B ≤ m → ¬ fresh m vg.heap.size q := fun m hm h => by have := h.1; omega
      have Yq : ∀ m, B ≤ m → Keeps (fresh m vg.heap.size) vg (((((vg.setCell ⟨q, 7, none⟩ (.int .i64 ex.kind)).setCell ⟨q, 8, none⟩ (.int .i64 ex.n)).setCell ⟨q, 9, none⟩ (.string ex.bT)).setCell ⟨q, 10, none⟩ (.string ex.s)).setCell ⟨q, 11, none⟩ (.slice A3 ex.args.length c3)) := fun m hm =>
        (((((Keeps.refl _ _).setCell (hnq m hm) _).setCell (hnq m hm) _).setCell (hnq m hm) _).setCell (hnq m hm) _).setCell (hnq m hm) _
      have Dh : (((((vg.setCell ⟨q, 7, none⟩ (.int .i64 ex.kind)).setCell ⟨q, 8, none⟩ (.int .i64 ex.n)).setCell ⟨q, 9, none⟩ (.string ex.bT)).setCell ⟨q, 10, none⟩ (.string ex.s)).setCell ⟨q, 11, none⟩ (.slice A3 ex.args.length c3)).heap.size = vg.heap.size := by simp only [size_set]
      generalize ((((vg.setCell ⟨q, 7, none⟩ (.int .i64 ex.kind)).setCell ⟨q, 8, none⟩ (.int .i64 ex.n)).setCell ⟨q, 9, none⟩ (.string ex.bT)).setCell ⟨q, 10, none⟩ (.string ex.s)).setCell ⟨q, 11, none⟩ (.slice A3 ex.args.length c3) = W14 at uH Yq Dh ⊢
      have kX := uH.own
      have jh := uH.res
      clear x7 x8 x9 x10 x11 g7 g8 g9 g10 g11
      have x0 := kX.at_ 0 _ rfl
      have x1 := kX.at_ 1 _ rfl
      have x2 := kX.at_ 2 _ rfl
      have x3 := kX.at_ 3 _ rfl
      have x4 := kX.at_ 4 _ rfl
      have x5 := kX.at_ 5 _ rfl
      have x6 := kX.at_ 6 _ rfl
      have x7 := kX.at_ 7 _ rfl
      have x8 := kX.at_ 8 _ rfl
      have x9 := kX.at_ 9 _ rfl
      have x10 := kX.at_ 10 _ rfl
      have x11 := kX.at_ 11 _ rfl
      have r0 := jh.at_ 0 _ rfl
      have r1 := jh.at_ 1 _ rfl
      have r2 := jh.at_ 2 _ rfl
      have r3 := jh.at_ 3 _ rfl
      have r4 := jh.at_ 4 _ rfl
      have r5 := jh.at_ 5 _ rfl
      have r6 := jh.at_ 6 _ rfl
      have r7 := jh.at_ 7 _ rfl
      have r8 := jh.at_ 8 _ rfl
      have r9 := jh.at_ 9 _ rfl
      have r10 := jh.at_ 10 _ rfl
      have r11 := jh.at_ 11 _ rfl
      have k0 := jh.free 0
      have k1 := jh.free 1
      have k2 := jh.free 2
      have k3 := jh.free 3
      have k4 := jh.free 4
      have k5 := jh.free 5
      have k6 := jh.free 6
      have k7 := jh.free 7
      have k8 := jh.free 8
      have k9 := jh.free 9
      have k10 := jh.free 10
      have k11 := jh.free 11
      have XG := Lib.hid uH; have ag6 := Lib.hid Yq; have Ej := Lib.hid Dh
      clear uH Yq Dh
      clear kX jh
      go_wp2_with fail
      refine bodyPost_ret (v := .agg #[.string n, .string v, .slice A ps.length c, .int .i64 ty.kind, .string ty.bT, .string ty.name, .slice A2 ty.args.length c2, .int .i64 ex.kind, .int .i64 ex.n, .string ex.bT, .string ex.s, .slice A3 ex.args.length c3]) (by simp [results, results127, go_sem, r0, r1, r2, r3, r4, r5, r6, r7, r8, r9, r10, r11]) rfl ?_
      have hnr : ∀ m, B ≤ m → ¬ fresh m vg.heap.size W.heap.size := fun m hm h => by have := h.1; omega
      have Yr := fun m (hm : B ≤ m) => (((((((((((((ag6.out m hm).setCell (q := ⟨W.heap.size, 0, none⟩) (hnr m hm) (.string n)).setCell (q := ⟨W.heap.size, 1, none⟩) (hnr m hm) (.string v)).setCell (q := ⟨W.heap.size, 2, none⟩) (hnr m hm) (.slice A ps.length c)).setCell (q := ⟨W.heap.size, 3, none⟩) (hnr m hm) (.int .i64 ty.kind)).setCell (q := ⟨W.heap.size, 4, none⟩) (hnr m hm) (.string ty.bT)).setCell (q := ⟨W.heap.size, 5, none⟩) (hnr m hm) (.string ty.name)).setCell (q := ⟨W.heap.size, 6, none⟩) (hnr m hm) (.slice A2 ty.args.length c2)).setCell (q := ⟨W.heap.size, 7, none⟩) (hnr m hm) (.int .i64 ex.kind)).setCell (q := ⟨W.heap.size, 8, none⟩) (hnr m hm) (.int .i64 ex.n)).setCell (q := ⟨W.heap.size, 9, none⟩) (hnr m hm) (.string ex.bT)).setCell (q := ⟨W.heap.size, 10, none⟩) (hnr m hm) (.string ex.s)).setCell (q := ⟨W.heap.size, 11, none⟩) (hnr m hm) (.slice A3 ex.args.length c3))
      have KW := (((((((((((XG.out.jI 0 (.string n)).jI 1 (.string v)).jI 2 (.slice A ps.length c)).jI 3 (.int .i64 ty.kind)).jI 4 (.string ty.bT)).jI 5 (.string ty.name)).jI 6 (.slice A2 ty.args.length c2)).jI 7 (.int .i64 ex.kind)).jI 8 (.int .i64 ex.n)).jI 9 (.string ex.bT)).jI 10 (.string ex.s)).jI 11 (.slice A3 ex.args.length c3)
      have ah4 := KW.look
      have hup : ∀ m k, B ≤ m → fresh m vg.heap.size k → fresh W.heap.size W14.heap.size k := fun m k hm hk => ⟨by have := hk.1; omega, by have := hk.2; have := Ej.out; omega⟩
      refine .inl ⟨_, L13, _, QC.out, rfl, ⟨[.string n, .string v, .slice A ps.length c, .int .i64 ty.kind, .string ty.bT, .string ty.name, .slice A2 ty.args.length c2, .int .i64 ex.kind, .int .i64 ex.n, .string ex.bT, .string ex.s, .slice A3 ex.args.length c3], rfl, _, [.int .i64 ty.kind, .string ty.bT, .string ty.name, .slice A2 ty.args.length c2], [.int .i64 ex.kind, .int .i64 ex.n, .string ex.bT, .string ex.s, .slice A3 ex.args.length c3], rfl, HNO.out, HVO.out, ?_, ?_, ?_⟩, ah4⟩
      · simp only [size_set]
        exact SliceOf.stays aQ.stays HPS.out (fun k hk => hup _ _ (aJ _) hk) (Yr B (aJ _))
      · simp only [size_set]
        exact iD.stays _ _ _ _ _ _ ahv.out (fun k hk => ⟨by have := hk.1; omega, by have := hk.2; have := Ej.out; omega⟩) ((Yr W9.heap.size (by omega)).mono (fun k hk => ⟨hk.1, by have := hk.2; omega⟩))
      · simp only [size_set]
        exact dN.stays _ _ _ _ _ _ ahw.out (fun k hk => hup J4.heap.size _ (by omega) hk) (Yr J4.heap.size (by omega))
    | false =>
      obtain ⟨hT, rfl⟩ := hT.no
      have BL := hM7.out.trans (aaf hT)
      have hbB : b < B := by have := XC.out; have := hd8.lt; have := hd8.far; omega
      have hqB : q < B := by have := XC.out; omega
      have kY := hd8.own
      have x2 := kY.at_ 2 _ rfl
      have Nw := Lib.hid BL; have uY := Lib.hid hd8; have vU := Lib.hid tX; have wI := Lib.hid hG7
      clear BL hd8 tX hG7
      clear rE hd7 xY hM7 hT qR kY
      go_upto_if 23 with (fail)
      go_cut [] (fun wc => ∃ (L' : List Token), L'.length ≤ L8.length ∧ Aside (M = aO IJ (fun p => jF m (ps ++ [p])) L') ∧
        Aside (wG 83 b F W q #[.string ⟨#[]⟩, .string ⟨#[]⟩, .slice none 0 0, .int .i64 0, .string ⟨#[]⟩, .string ⟨#[]⟩, .slice none 0 0, .int .i64 0, .int .i64 0, .string ⟨#[]⟩, .string ⟨#[]⟩, .slice none 0 0] #[.string n, .string v, .slice A ps.length c, .int .i64 0, .string ⟨#[]⟩, .string ⟨#[]⟩, .slice none 0 0, .int .i64 0, .int .i64 0, .string ⟨#[]⟩, .string ⟨#[]⟩, .slice none 0 0] wc L' 0) ∧ Aside (aZ aQ 5 78 B wc G (.slice A ps.length c) ps) ∧ Aside (B ≤ wc.heap.size))
      case first =>
        by_cases hp : ps.length = 0
        · have hpz : ¬ ((0 : Int) < (ps.length : Int)) := by omega
          have Ri := Nw.out
          rw [if_pos hp] at Ri
          have qY : M = aO IJ (fun p => jF m (ps ++ [p])) L8 := Ri.trans (bI rfl)
          have aof : (decide ((0 : Int) < (ps.length : Int))) = false := decide_eq_false hpz
          have Zw := Lib.hid qY
          clear qY
          clear Ri hp
          go_wp2_with fail
          go_meet
          exact ⟨L8, aJ _, aside Zw.out, aside uY.out, aside vU.out, aside (by omega)⟩
        · have hpz : (0 : Int) < (ps.length : Int) := by omega
          have Ri := Nw.out
          rw [if_neg hp] at Ri
          have hms := lD uY.out.look.start nS
          have Zw := Lib.hid Ri; have qj := Lib.hid hms
          clear Ri hms
          clear hp
          go_wp2_with fail
          refine qj.out.mono ?_
          rintro e W9 ⟨L9, (⟨rfl, hm9, F8⟩ | ⟨rfl, hm9, F8⟩)⟩
          · have qY := Zw.out.trans (bI (iH hm9))
            have hd9 := uY.out.go F8
            have qA := vU.out.read aQ.stays F8.grew hbB wI.out
            have ht9 := take_len hm9
            have hs9 := F8.size
            have vV := Lib.hid qY; have qw := Lib.hid hd9; have zn := Lib.hid qA
            clear qY hd9 qA
            clear F8 hm9
            go_wp2_with fail
            go_meet
            exact ⟨L9, by omega, aside vV.out, aside qw.out, aside zn.out, aside (by omega)⟩
          · have qY : R = .error 4 := HME.out _ (Zw.out.trans (bM (jy hm9)))
            have hd9 := uY.out.go F8
            have vV := Lib.hid qY; have qw := Lib.hid hd9
            clear qY hd9
            clear F8 hm9
            go_wp2_with fail
            exact ⟨rfl, .inr ⟨4, L9, 0, vV.out, rfl, qw.out.look, Int.le_refl _, by omega⟩⟩
      case rest =>
      obtain ⟨L9, aqU, Ri, hd9, qA, hB9⟩ := hcut
      obtain ⟨W9, rfl⟩ : ∃ W, W = wc := ⟨_, rfl⟩
      have hB9 := hB9.out
      have Ri := Ri.out
      rw [aem] at Ri
      have hnm := name_any hd9.out.look.start hd9.out.look.lt
      have Zw := Lib.hid Ri; have qw := Lib.hid hd9; have zn := Lib.hid qA; have Ee := Lib.hid hnm
      clear Ri hd9 qA hnm
      clear x2 Nw uY vU
      go_wp2_with fail
      refine Ee.out.mono ?_
      rintro e su (⟨pn, L10, _, hn, rfl, ⟨rfl, hpo⟩, nO⟩ | ⟨k, L10, d10, hn, rfl, nO, h1, h2⟩)
      rotate_left
      · have qY : R = .error k := HME.out _ (Zw.out.trans (bM hn))
        have hd10 := qw.out.out.go nO
        have vV := Lib.hid qY; have sK := Lib.hid hd10
        clear qY hd10
        clear nO hn
        go_wp2_with fail
        exact ⟨rfl, .inr ⟨k, L10, d10, vV.out, rfl, sK.out.look, h1, h2⟩⟩
      have qY := Zw.out.trans (bI hn)
      have hd10 := qw.out.out.go nO
      have Dk := zn.out.out.read aQ.stays nO.grew hbB wI.out
      have hs10 : L10.length + 1 ≤ L9.length := by
        cases L9 with
        | nil => cases hn
        | cons t u =>
          rw [kT] at hn
          split at hn
          · cases hn; simp
          · cases hn
      have ahJ := nO.size
      have Ip : ∀ k, G k → k < su.heap.size := fun k hk => (Dk.foot hk).1
      have hrow : ∀ k, (Value.slice A ps.length c).ownBlock = some k → k < su.heap.size := fun k hk => (Dk.row hk).2
      have vV := Lib.hid qY; have sK := Lib.hid hd10; have JM := Lib.hid Dk; have HPO := Lib.hid hpo; have acw := Lib.hid Ip; have zF := Lib.hid hrow
      clear qY hd10 Dk hpo Ip hrow
      clear nO hn Ee qw zn Zw
      go_upto_region 10 with fail
      have qP := Box.made su 78 #[.string pn, .int .i64 0, .string ⟨#[]⟩, .string ⟨#[]⟩, .slice none 0 0]
      have hbp : Below su.heap.size su (su.alloc (.cells #[.string pn, .int .i64 0, .string ⟨#[]⟩, .string ⟨#[]⟩, .slice none 0 0] 78)) := by go_grown
      have hzp : (su.alloc (.cells #[.string pn, .int .i64 0, .string ⟨#[]⟩, .string ⟨#[]⟩, .slice none 0 0] 78)).heap.size = su.heap.size + 1 := by simp
      generalize su.alloc (.cells #[.string pn, .int .i64 0, .string ⟨#[]⟩, .string ⟨#[]⟩, .slice none 0 0] 78) = W11 at qP hbp hzp ⊢
      have hd11 := sK.out.below hbp
      have GH := JM.out.below aQ.stays hbp
      have hms := lD hd11.look.start rX
      have QN := hbp.size
      obtain ⟨pq, hpq⟩ : ∃ z, su.heap.size = z := ⟨_, rfl⟩
      rw [hpq] at qP ⊢
      have Lc : pq ≠ b := by omega
      have aoe : pq ≠ q := by omega
      have Q9 : q ≠ pq := by omega
      have hpl := qP.lt
      have zk := Lib.hid hd11; have JO := Lib.hid GH; have qj := Lib.hid hms; have acH := Lib.hid qP; have HPQ := Lib.hid hpq
      clear hd11 GH hms qP hpq
      clear hbp hzp sK JM
      go_wp2_with fail
      refine qj.out.mono ?_
      rintro e J4 ⟨L12, (⟨rfl, GN, hl12⟩ | ⟨rfl, GN, hl12⟩)⟩
      rotate_left
      · have Le : R = .error 4 := HME.out _ (vV.out.trans (bM (jy GN)))
        have pz := zk.out.go hl12
        have JY := Lib.hid Le; have rJ := Lib.hid pz
        clear Le pz
        clear hl12 GN
        go_wp2_with fail
        exact ⟨rfl, .inr ⟨4, L12, 0, JY.out, rfl, rJ.out.look, Int.le_refl _, by omega⟩⟩
      have Le := vV.out.trans (bI (iH GN))
      have pz := zk.out.go hl12
      have KN := JO.out.read aQ.stays hl12.grew hbB wI.out
      have adv := hl12.grew.jm acH.out Lc
      have aol := take_len GN
      have ahK := hl12.size
      have hkd := H9 40 J4 L12 0 pz.look.start (by omega) (by omega)
      have JY := Lib.hid Le; have rJ := Lib.hid pz; have JQ := Lib.hid KN; have acI := Lib.hid adv; have HKD := Lib.hid hkd
      clear Le pz KN adv hkd
      clear hl12 GN qj zk JO vV acH
      go_wp2_with fail
      refine HKD.out.mono ?_
      rintro e vg (⟨ty, L13, _, hn, rfl, ⟨cs, rfl, hY⟩, pF⟩ | ⟨k, L13, d13, hn, rfl, pF, h1, h2⟩)
      rotate_left
      · have Lh : R = .error k := HME.out _ (JY.out.trans (bM hn))
        have rQ := rJ.out.go pF
        have QC := Lib.hid Lh; have qc := Lib.hid rQ
        clear Lh rQ
        clear pF hn
        go_wp2_with fail
        exact ⟨rfl, .inr ⟨k, L13, d13, QC.out, rfl, qc.out.look, h1, h2⟩⟩
      have Lh := JY.out.trans (bI hn)
      have rQ := rJ.out.go pF
      have GI := JQ.out.read aQ.stays pF.grew hbB wI.out
      have wu := pF.grew.jm acI.out Lc
      have aoi := yG 40 _ _ _ hn
      have ahL := pF.size
      obtain ⟨A2, c2, rfl⟩ := iD.form hY
      have x1 := wu.at_ 1 _ rfl
      have x2 := wu.at_ 2 _ rfl
      have x3 := wu.at_ 3 _ rfl
      have x4 := wu.at_ 4 _ rfl
      have g1 := wu.free 1
      have g2 := wu.free 2
      have g3 := wu.free 3
      have g4 := wu.free 4
      have QC := Lib.hid Lh; have qc := Lib.hid rQ; have acD := Lib.hid GI; have acJ := Lib.hid wu; have uZ := Lib.hid hY
      clear Lh rQ GI wu hY
      clear pF hn HKD rJ JQ JY acI
      go_upto_region 12 with fail
      have hfp : ∀ k, G k → k ≠ pq := fun k hk => by have := acw.out k hk; have := HPQ.out; omega
      have hrp : ∀ k, (Value.slice A ps.length c).ownBlock = some k → k ≠ pq := fun k hk => by have := zF.out k hk; have := HPQ.out; omega
      have Ac := (((acJ.out.put 1 (.int .i64 ty.kind)).put 2 (.string ty.bT)).put 3 (.string ty.name)).put 4 (.slice A2 ty.args.length c2)
      simp only [List.setIfInBounds_toArray, List.set_cons_zero, List.set_cons_succ] at Ac
      have Ym := (((acD.out.AO aQ.stays (p := ⟨pq, 1, none⟩) hfp hrp (.int .i64 ty.kind)).AO aQ.stays (p := ⟨pq, 2, none⟩) hfp hrp (.string ty.bT)).AO aQ.stays (p := ⟨pq, 3, none⟩) hfp hrp (.string ty.name)).AO aQ.stays (p := ⟨pq, 4, none⟩) hfp hrp (.slice A2 ty.args.length c2)
      have Q5 : W.heap.size ≤ pq := by have := qc.out.far; have := HPQ.out; omega
      have Rf : W.heap.size ≠ pq := by have := qc.out.far; have := HPQ.out; omega
      have uH : wG 83 b F W q #[.string ⟨#[]⟩, .string ⟨#[]⟩, .slice none 0 0, .int .i64 0, .string ⟨#[]⟩, .string ⟨#[]⟩, .slice none 0 0, .int .i64 0, .int .i64 0, .string ⟨#[]⟩, .string ⟨#[]⟩, .slice none 0 0] #[.string n, .string v, .slice A ps.length c, .int .i64 0, .string ⟨#[]⟩, .string ⟨#[]⟩, .slice none 0 0, .int .i64 0, .int .i64 0, .string ⟨#[]⟩, .string ⟨#[]⟩, .slice none 0 0] ((((vg.setCell ⟨pq, 1, none⟩ (.int .i64 ty.kind)).setCell ⟨pq, 2, none⟩ (.string ty.bT)).setCell ⟨pq, 3, none⟩ (.string ty.name)).setCell ⟨pq, 4, none⟩ (.slice A2 ty.args.length c2)) L13 0 :=
        ⟨(((qc.out.look.set (p := ⟨pq, 1, none⟩) Q5 hbl _).set (p := ⟨pq, 2, none⟩) Q5 hbl _).set (p := ⟨pq, 3, none⟩) Q5 hbl _).set (p := ⟨pq, 4, none⟩) Q5 hbl _,
         (((qc.out.res.far (p := ⟨pq, 1, none⟩) Rf _).far (p := ⟨pq, 2, none⟩) Rf _).far (p := ⟨pq, 3, none⟩) Rf _).far (p := ⟨pq, 4, none⟩) Rf _,
         (((qc.out.own.far (p := ⟨pq, 1, none⟩) Q9 _).far (p := ⟨pq, 2, none⟩) Q9 _).far (p := ⟨pq, 3, none⟩) Q9 _).far (p := ⟨pq, 4, none⟩) Q9 _, qc.out.far, qc.out.lt⟩
      have hyk : ¬ fresh J4.heap.size vg.heap.size pq := fun h => by have := h.1; omega
      have Yo := iD.stays _ _ _ _ _ _ uZ.out (fun _ h => h) (((((Keeps.refl _ _).setCell (q := ⟨pq, 1, none⟩) hyk (.int .i64 ty.kind)).setCell (q := ⟨pq, 2, none⟩) hyk (.string ty.bT)).setCell (q := ⟨pq, 3, none⟩) hyk (.string ty.name)).setCell (q := ⟨pq, 4, none⟩) hyk (.slice A2 ty.args.length c2))
      have Dh : ((((vg.setCell ⟨pq, 1, none⟩ (.int .i64 ty.kind)).setCell ⟨pq, 2, none⟩ (.string ty.bT)).setCell ⟨pq, 3, none⟩ (.string ty.name)).setCell ⟨pq, 4, none⟩ (.slice A2 ty.args.length c2)).heap.size = vg.heap.size := by simp only [size_set]
      generalize (((vg.setCell ⟨pq, 1, none⟩ (.int .i64 ty.kind)).setCell ⟨pq, 2, none⟩ (.string ty.bT)).setCell ⟨pq, 3, none⟩ (.string ty.name)).setCell ⟨pq, 4, none⟩ (.slice A2 ty.args.length c2) = W14 at Ac Ym uH Yo Dh ⊢
      have kX := uH.own
      clear x1 x2 x3 x4 g1 g2 g3 g4
      have x0 := Ac.at_ 0 _ rfl
      have x1 := Ac.at_ 1 _ rfl
      have x2 := Ac.at_ 2 _ rfl
      have x3 := Ac.at_ 3 _ rfl
      have x4 := Ac.at_ 4 _ rfl
      have y2 := kX.at_ 2 _ rfl
      have hy2 := fun o => (kX.alloc o).at_ 2 _ rfl
      have hyf := fun o => (kX.alloc o).free 2
      have hFR : aQ W14 (fresh J4.heap.size vg.heap.size) [.string pn, .int .i64 ty.kind, .string ty.bT, .string ty.name, .slice A2 ty.args.length c2] ⟨pn, ty⟩ := ⟨[.int .i64 ty.kind, .string ty.bT, .string ty.name, .slice A2 ty.args.length c2], rfl, HPO.out, Yo⟩
      have hql : q < W14.heap.size := kX.lt
      have XG := Lib.hid uH; have aha := Lib.hid Ym; have JJ := Lib.hid hFR; have Ej := Lib.hid Dh
      clear uH Ym hFR Dh
      clear Ac acJ acD qc uZ kX Yo hfp hrp
      go_wp2_with (at_builtin; go_must ((refine bH aQ.stays (.agg #[.string ⟨#[]⟩, .int .i64 0, .string ⟨#[]⟩, .string ⟨#[]⟩, .slice none 0 0]) [.string pn, .int .i64 ty.kind, .string ty.bT, .string ty.name, .slice A2 ty.args.length c2] ⟨pn, ty⟩ rfl rfl underlying24 (bytes := 80) (by kernel_rfl) aha.out rfl rfl (by decide) rfl rfl JJ.out (sZ JJ.out) (fun k hk => ⟨by have := hk.2; have := Ej.out; omega, fun e => by have := zF.out k e.symm; have := hk.1; omega⟩) (by unfold maxLen; omega) (by omega) (by have := Ej.out; omega) ?_); (intro A6 c6 W15 mV hgr _; have KW := XG.out.grown hgr hqB; have Yv := KW.own; have z2 := Yv.at_ 2 _ rfl; have f2 := Yv.free 2; have hgs := hgr.size; have agV := Lib.hid KW; have ahb := Lib.hid mV; have HGS := Lib.hid hgs; clear mV hgr KW Yv hgs)))
      obtain ⟨m', rfl⟩ : ∃ m', m = m' + 1 := ⟨m - 1, by omega⟩
      go_roundg L13.length
      case measure => omega
      case rel =>
        have adI := agV.out.ru 2 (.slice A6 (ps.length + 1) c6)
        simp only [List.setIfInBounds_toArray, List.set_cons_zero, List.set_cons_succ] at adI
        have ads : ∀ k, G k ∨ fresh J4.heap.size vg.heap.size k → B ≤ k := fun k hk => hk.elim (wI.out k) (fun h => by have := h.1; omega)
        refine ⟨m', c6, A6, ps ++ [⟨pn, ty⟩], L13, (fun k => G k ∨ fresh J4.heap.size vg.heap.size k), aJ _, by omega, by omega, by rw [List.length_append, List.length_singleton]; omega, aside QC.out, aside ?_, aside ?_, aside ads, aside ?_⟩
        · rw [List.length_append, List.length_singleton]; exact adI
        · have h := ahb.out.set aQ.stays (p := ⟨q, 2, none⟩) (by show q < B; omega) (fun k hk => by have := ads k hk; show k ≠ q; omega) (.slice A6 (ps.length + 1) c6)
          rw [List.length_append, List.length_singleton]; exact h
        · rw [size_set]; have := HGS.out; have := Ej.out; omega
end Go.Proofs.YtjaladhdnbhliaaGreatDoor
