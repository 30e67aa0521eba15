/- Parts. -/
import Derived.Test.YtjaladhdnbhliaaGreatDoorQFaceRef
set_option maxHeartbeats 2000000
namespace Go.Proofs.YtjaladhdnbhliaaGreatDoor
open Go.Proofs.Tryz
open Go.RowKit Go.Shelf
structure kU(w W:World)(m kk:Nat)(tu fs:Value)(a:gU):Prop where
 below:Below w.heap.size w W
 lo:w.heap.size+2≤m
 size:m<W.heap.size
 res:W.heap[w.heap.size+1]? =some (.cells #[.slice none 0 0,.slice none 0 0] 42 (0,0))
 cm:W.heap[m]? =some (.cells #[tu,fs] 42 (0,0))
 ts:SliceOf aW 2 32 W (fresh (w.heap.size+2) m) tu a.types
 own:∃xs G,W.ownsRow (m+1) 62 3 fs kk xs∧kE fB 3 W G xs (a.funcs.take kk)∧∀k,G k→m<k∧k<W.heap.size∧some k≠fs.ownBlock
theorem Hq{w w':World}{base:Nat}{e:TypeId}{sz:Nat}{v:Value}{n:Nat}{xs:List Value}(h:w.ownsRow base e sz v n xs)(hh:∀g,v.ownBlock=some g→w'.heap[g]? =w.heap[g]?):w'.ownsRow base e sz v n xs:=by
 obtain⟨h1,h2⟩:=h;refine⟨h1,?_⟩;rcases h2 with h2|⟨g,cap,cur,rfl,hg,hc,h3⟩
 ·exact .inl h2
 ·exact .inr ⟨g,cap,cur,rfl,hg,(hh g rfl).trans hc,h3⟩
theorem kC{F:aV}{w w':World}(h:∀k,F k→w'.heap[k]? =w.heap[k]?):Keeps F w w':=fun _ hp=>World.cell?_of_block (h _ hp)
theorem PZ{w:World}{base:Nat}{e:TypeId}{sz:Nat}{v:Value}{n:Nat}{xs:List Value}(h:w.ownsRow base e sz v n xs):∃A c,v=.slice A n c:=by
 rcases h.2 with ⟨rfl,rfl⟩|⟨g,cap,cur,rfl,_⟩
 ·exact⟨_,_,rfl⟩
 ·exact⟨_,_,rfl⟩
theorem kU.step{w W Wb We:World}{m kk:Nat}{tu fs fs' pv:Value}{a:gU}{x:kR}{xs:List Value}{o:Obj}{G:aV}(C:kU w W m kk tu fs a)(hx:a.funcs[kk]? =some x)
  (hn:okS x.name) (hr:okS x.result) (hb:Below (W.alloc o).heap.size (W.alloc o) Wb) (hp:SliceOf aY 1 16 Wb (fresh (W.alloc o).heap.size Wb.heap.size) pv x.params)
  (hrow:kE fB 3 W G xs (a.funcs.take kk)) (hG:∀k,G k→m<k∧k<W.heap.size∧some k≠fs.ownBlock) (hfs:∀k,fs.ownBlock=some k→m<k∧k<W.heap.size)
  (hown:We.ownsRow (m+1) 62 3 fs' (kk+1) (xs++ [.string x.name,pv,.string x.result]))
  (hgrow:((Wb.setCell ⟨W.heap.size,1,none⟩ pv).alloc (.cells #[.string x.name,pv,.string x.result] 62)).grownBy We fs.ownBlock)
  (hloc:fs'.ownBlock=fs.ownBlock∨fs'.ownBlock=some ((Wb.setCell ⟨W.heap.size,1,none⟩ pv).alloc (.cells #[.string x.name,pv,.string x.result] 62)).heap.size):
  kU w (We.setCell ⟨m,1,none⟩ fs') m (kk+1) tu fs' a:=by
 have hlo:=C.lo;have hsz:=C.size;have h1:(W.alloc o).heap.size=W.heap.size+1:=by simp
 have h2:=hb.size;have h3:(Wb.setCell ⟨W.heap.size,1,none⟩ pv).heap.size=Wb.heap.size:=by simp[World.setCell]
 have h4:=hgrow.size;have h5:((Wb.setCell ⟨W.heap.size,1,none⟩ pv).alloc (.cells #[.string x.name,pv,.string x.result] 62)).heap.size=Wb.heap.size+1:=by simp[World.setCell]
 rw[h5]at h4 hloc;have hmid:∀k,k<Wb.heap.size→k≠W.heap.size→some k≠fs.ownBlock→k≠m→(We.setCell ⟨m,1,none⟩ fs').heap[k]? =Wb.heap[k]? :=fun k hk hk1 hk2 hk3=>by
  rw[Below.heap_setCell _ _ _ _ hk3,hgrow.block k (by simp[h3];omega) hk2,Below.heap_alloc _ _ _ (by omega),Below.heap_setCell _ _ _ _ hk1]
 have hold:∀k,k<W.heap.size→some k≠fs.ownBlock→k≠m→(We.setCell ⟨m,1,none⟩ fs').heap[k]? =W.heap[k]? :=fun k hk hk2 hk3=>by
  rw[hmid k (by omega) (by omega) hk2 hk3,hb.block k (by omega),Below.heap_alloc _ _ _ hk]
 have hlow:∀k,k<m→some k≠fs.ownBlock:=fun k hk e=>by have:=hfs k e.symm;omega
 have hm:We.heap[m]? =some (.cells #[tu,fs] 42 (0,0)):=by
  rw[hgrow.block m (by rw[h5];omega) (fun e=>by have:=hfs m e.symm;omega),Below.heap_alloc _ _ _ (by omega),Below.heap_setCell _ _ _ _ (by simp;omega),hb.block m (by omega),Below.heap_alloc _ _ _ hsz,C.cm]
 have hsf:(We.setCell ⟨m,1,none⟩ fs').heap.size=We.heap.size:=by simp[World.setCell]
 refine⟨?_,hlo,by omega,?_,?_,?_,?_⟩
 ·have hbs:=C.below.size;exact(Below.grown ((((C.below.alloc hbs o).trans (hb.mono (by omega))).setCell (by simp;omega) pv).alloc (by omega) _) hgrow (by omega) (fun k hk=>by have:=hfs k hk;omega)).setCell (by simp;omega) fs'
 ·rw[hold _ (by omega) (hlow _ (by omega)) (by omega)];exact C.res
 ·simp only[World.setCell,Array.getElem?_modify,if_true,hm];rfl
 ·exact C.ts.stays aW.stays (fun _ h=>h) (kC fun k hk=>hold k (by have:=hk.2;omega) (hlow k hk.2) (by have:=hk.2;omega))
 ·refine⟨_,fun k=>G k∨fresh (W.alloc o).heap.size Wb.heap.size k,Hq hown (fun g hg=>Below.heap_setCell _ _ _ _ ?_),?_,?_⟩
  ·rcases hloc with h|h
   ·have:=hfs g (h▸hg);simp;omega
   ·rw[h]at hg;injection hg with hg;simp;omega
  ·rw[List.take_add_one,hx];refine kE.append (hrow.stays fB.stays (fun _ h=>.inl h) (kC fun k hk=>?_)) (kE.one rfl ⟨pv,rfl,hn,hr,hp.stays aY.stays (fun _ h=>.inr h) (kC fun k hk=>?_)⟩)
   ·have:=hG k hk;exact hold k this.2.1 this.2.2 (by omega)
   ·have h6:=hk.1;have h7:=hk.2;exact hmid k h7 (by omega) (fun e=>by have:=hfs k e.symm;omega) (by omega)
  ·rintro k (hk|hk)
   ·have h6:=hG k hk;refine⟨h6.1,by omega,?_⟩;rcases hloc with h|h
    ·rw[h];exact h6.2.2
    ·rw[h];intro e;injection e with e;omega
   ·have h6:=hk.1;have h7:=hk.2;refine⟨by omega,by omega,?_⟩;rcases hloc with h|h
    ·rw[h];intro e;have:=hfs k e.symm;omega
    ·rw[h];intro e;injection e with e;omega
theorem kU.c0{w W:World}{m kk:Nat}{tu fs:Value}{a:gU}(h:kU w W m kk tu fs a):W.cell? ⟨m,0,none⟩=some tu:=by simp[World.cell?,h.cm]
theorem kU.r0{w W:World}{m kk:Nat}{tu fs:Value}{a:gU}(h:kU w W m kk tu fs a):W.cell? ⟨w.heap.size+1,0,none⟩=some (.slice none 0 0):=by simp[World.cell?,h.res]
theorem kU.r1{w W:World}{m kk:Nat}{tu fs:Value}{a:gU}(h:kU w W m kk tu fs a):W.cell? ⟨w.heap.size+1,1,none⟩=some (.slice none 0 0):=by simp[World.cell?,h.res]
theorem kU.f0{w W:World}{m kk:Nat}{tu fs:Value}{a:gU}(h:kU w W m kk tu fs a)(j:Nat):W.frozen? ⟨w.heap.size+1,j,none⟩=false:=by simp[World.frozen?,h.res]
theorem kU.c1{w W:World}{m kk:Nat}{tu fs:Value}{a:gU}(h:kU w W m kk tu fs a):W.cell? ⟨m,1,none⟩=some fs:=by simp[World.cell?,h.cm]
set_option maxRecDepth 100000 in
theorem QL(a:gU)(cs:List Value)(F:aV)(w:World)(hF:∀k,F k→k<w.heap.size)(ha:bD w F cs a):
  Calls prog 30 #[.agg cs.toArray] w fun e w'=>∃ds,e=.returned (.agg ds.toArray)∧Below w.heap.size w w'∧bD w' (fresh w.heap.size w'.heap.size) ds a:=by
 obtain⟨tv,fv,rfl,ht,hf⟩:=ha;obtain⟨A3,c3,rfl,_,_,hl3,hl4⟩:=hf.form;have hC:=fun W hB=>QK tv a.types F W (ht.stays aW.stays (fun _ h=>h) (Keeps.of_below (B:=w.heap.size) hB hF)) (Au hF hB)
 have HC:=ah hC;clear hC;go_enter func30,ntmps30;go_wp2_with fail;have hB:=ac4 w 42 tv (.slice A3 a.funcs.length c3) (.slice none 0 0) (.slice none 0 0);generalize hW2:(w.alloc (.cells #[tv,.slice A3 a.funcs.length c3] 42)).alloc (.cells #[.slice none 0 0,.slice none 0 0] 42)=W2 at hB⊢;have hR:W2.heap[w.heap.size+1]? =some (.cells #[.slice none 0 0,.slice none 0 0] 42 (0,0)):=by
  rw[←hW2,show w.heap.size+1=(w.alloc (.cells #[tv,.slice A3 a.funcs.length c3] 42)).heap.size by simp];exact heap_alloc_new _ _
 have hz2:W2.heap.size=w.heap.size+2:=by rw[←hW2];simp
 clear hW2;refine(HC.out _ hB.below).mono ?_;rintro e W1 ⟨tu,rfl,hb1,hs1⟩;obtain⟨A1,c1,rfl,_,_,hl5,nY⟩:=hs1.form;have hB1:=hB.later (hb1.mono hB.size);have hsz:=hB1.size;have ha1:=hB1.ca1;have hsz0:w.heap.size<W1.heap.size:=by omega
 have HB1:=ah hB1;have Jv:=ah hs1;have Hb1:=ah hb1;clear hB1 hs1 hb1 hB;have hC0:kU w (W1.alloc (.cells #[.slice A1 a.types.length c1,.slice none 0 0] 42)) W1.heap.size 0 (.slice A1 a.types.length c1) (.slice none 0 0) a:=
  ⟨HB1.out.below.alloc (by omega) _,hsz,by simp,by rw[Below.heap_alloc _ _ _ (by omega),Hb1.out.block _ (by omega)];exact hR,heap_alloc_new _ _,
   Jv.out.stays aW.stays (fun k hk=>⟨by have:=hk.1;omega,hk.2⟩) (kC fun k hk=>Below.heap_alloc _ _ _ hk.2),
   [],fun _=>False,World.ownsRow_nil _ _ _ _,kE.nil_,fun k hk=>hk.elim⟩
 have HC0:=ah hC0;clear hC0 hR ht;go_wp2_with fail;go_loopg [13] a.funcs.length (fun gg s13 wr=>∃(kk:Nat) (fs:Value),kk≤a.funcs.length∧a.funcs.length-kk≤gg∧s13=.int .i64 kk∧Aside (kU w wr W1.heap.size kk (.slice A1 a.types.length c1) fs a))
 case atStart=>exact⟨0,_,Nat.zero_le _,by omega,rfl,HC0.out⟩
 case round=>
  obtain⟨kk,fs,hkk,hg,rfl,CW⟩:=hrel;obtain⟨xs,G,hown,hrow,hG⟩:=CW.out.own;obtain⟨A4,c4,rfl⟩:=PZ hown;obtain⟨HO,HR,HG⟩:=ak hown hrow hG;clear hown hrow hG
  by_cases hlt:kk<a.funcs.length
  ·have hltz:(kk:Int)<(a.funcs.length:Int):=by omega
   obtain⟨b1,off,cs,rfl,hb,hcs,hr,hcell⟩:=(hf.stays fB.stays (fun _ h=>h) (Keeps.of_below CW.out.below hF)).at_ hlt;obtain⟨pv,rfl,hn,hr2,hpv⟩:=hr;obtain⟨P1,e1,rfl,_,_,hp5,hp6⟩:=hpv.form;have hc0:=hcell 0 _ rfl;have hc1:=hcell 1 _ rfl;have hc2:=hcell 2 _ rfl;simp only[Nat.add_zero]at hc0;have hx:=aK hlt;generalize a.funcs[kk]=x at*;have HX:=ah hx;have hS:=Ku (.slice P1 x.params.length e1) x.params F (wr.alloc (.cells #[.string x.name,.slice P1 x.params.length e1,.string x.result] 62)) (hpv.stays aY.stays (fun _ h=>h) (kC fun k hk=>Below.heap_alloc _ _ _ (Au hF CW.out.below k hk))) (fun k hk=>by have:=Au hF CW.out.below k hk;simp;omega);have HS:=ah hS;have aoj:=CW.out.size;clear hx hcell hS hpv;go_wp2_with fail;refine HS.out.mono ?_;rintro e Wb ⟨pv',rfl,hbb,hpp⟩;obtain⟨P2,e2,rfl,_,_,hp7,hp8⟩:=hpp.form;have hsb:=hbb.size;have hsa:(wr.alloc (.cells #[.string x.name,.slice P1 x.params.length e1,.string x.result] 62)).heap.size=wr.heap.size+1:=by simp
   have hn0:(wr.alloc (.cells #[.string x.name,.slice P1 x.params.length e1,.string x.result] 62)).heap[wr.heap.size]? =some (.cells #[.string x.name,.slice P1 x.params.length e1,.string x.result] 62 (0,0)):=heap_alloc_new _ _;have hnb:Wb.heap[wr.heap.size]? =some (.cells #[.string x.name,.slice P1 x.params.length e1,.string x.result] 62 (0,0)):=(hbb.block _ (by omega)).trans hn0;have hmb:Wb.heap[W1.heap.size]? =some (.cells #[.slice A1 a.types.length c1,.slice A4 kk c4] 42 (0,0)):=by
    rw[hbb.block _ (by omega),Below.heap_alloc _ _ _ aoj];exact CW.out.cm
   have hq0:Wb.cell? ⟨wr.heap.size,0,none⟩=some (.string x.name):=by simp[World.cell?,hnb]
   have hq1:Wb.cell? ⟨wr.heap.size,1,none⟩=some (.slice P1 x.params.length e1):=by simp[World.cell?,hnb]
   have hq2:Wb.cell? ⟨wr.heap.size,2,none⟩=some (.string x.result):=by simp[World.cell?,hnb]
   have hqf:Wb.frozen? ⟨wr.heap.size,1,none⟩=false:=by simp[World.frozen?,hnb]
   have hm1:Wb.cell? ⟨W1.heap.size,1,none⟩=some (.slice A4 kk c4):=by simp[World.cell?,hmb]
   have hmf:Wb.frozen? ⟨W1.heap.size,1,none⟩=false:=by simp[World.frozen?,hmb]
   have hfs:∀k,(Value.slice A4 kk c4).ownBlock=some k→W1.heap.size<k∧k<wr.heap.size:=fun k hk=>HO.out.lt k hk
   have hWo:∀g,(Value.slice A4 kk c4).ownBlock=some g→((Wb.setCell ⟨wr.heap.size,1,none⟩ (.slice P2 x.params.length e2)).alloc (.cells #[.string x.name,.slice P2 x.params.length e2,.string x.result] 62)).heap[g]? =wr.heap[g]? :=fun g hg=>by
    have h6:=hfs g hg;rw[Below.heap_alloc _ _ _ (by simp[World.setCell]<;>omega),Below.heap_setCell _ _ _ _ (by simp;omega),hbb.block g (by omega),Below.heap_alloc _ _ _ h6.2]
   have hown1:=Hq HO.out hWo;have hmw:((Wb.setCell ⟨wr.heap.size,1,none⟩ (.slice P2 x.params.length e2)).alloc (.cells #[.string x.name,.slice P2 x.params.length e2,.string x.result] 62)).heap[W1.heap.size]? =some (.cells #[.slice A1 a.types.length c1,.slice A4 kk c4] 42 (0,0)):=by
    rw[Below.heap_alloc _ _ _ (by simp[World.setCell]<;>omega),Below.heap_setCell _ _ _ _ (by simp;omega)];exact hmb
   have hnw:=Box.made (Wb.setCell ⟨wr.heap.size,1,none⟩ (.slice P2 x.params.length e2)) 62 #[.string x.name,.slice P2 x.params.length e2,.string x.result];have hsw:(Wb.setCell ⟨wr.heap.size,1,none⟩ (.slice P2 x.params.length e2)).heap.size=Wb.heap.size:=by simp[World.setCell]
   rw[hsw]at hnw;have hnews:∀j u,[Value.string x.name,.slice P2 x.params.length e2,.string x.result][j]? =some u→((Wb.setCell ⟨wr.heap.size,1,none⟩ (.slice P2 x.params.length e2)).alloc (.cells #[.string x.name,.slice P2 x.params.length e2,.string x.result] 62)).cell? ((⟨Wb.heap.size,0,none⟩:Addr).add j)=some u:=fun j u hj=>by
    rw[Addr.add_lit,Nat.zero_add];exact hnw.at_ j u (by simpa using hj)
   have hone:∀u∈[Value.string x.name,.slice P2 x.params.length e2,.string x.result],u.oneCell'=true:=by
    intro u hu;simp only[List.mem_cons,List.not_mem_nil,or_false]at hu;rcases hu with rfl|rfl|rfl<;>rfl
   have hst:=fun We fs' hown' hgrow hloc=>CW.out.step (Wb:=Wb) (We:=We) (fs':=fs') (pv:=.slice P2 x.params.length e2) (xs:=xs) (o:=.cells #[.string x.name,.slice P1 x.params.length e1,.string x.result] 62) (G:=G) HX.out hn hr2 hbb hpp HR.out HG.out hfs hown' hgrow hloc
   obtain⟨HBB,HPP,HOW,HNW,HON,HST,HFS,HMW⟩:=aC hbb hpp hown1 hnews hone hst hfs hmw;clear hbb hpp hnb hmb hn0 hown1 hnews hone hst hfs hmw hWo hnw;obtain⟨i0,hi,hz0,hz1,hz2'⟩:=info_parts (show(prog.info? 62).map (fun i=>(i.zero,i.size,i.bytes))=some (some (.agg #[.string ⟨#[]⟩,.slice none 0 0,.string ⟨#[]⟩]:Value),3,56)by kernel_rfl);go_wp2_with(at_builtin;go_must((refine wpList_append_own_at _ rfl _ _ 40 rfl (W1.heap.size+1) 62 i0 (.agg #[.string ⟨#[]⟩,.slice none 0 0,.string ⟨#[]⟩]) 3 56 underlying40 hi hz0 hz1 hz2' rfl (by decide) _ _ _ rfl HOW.out ⟨Wb.heap.size,0,none⟩ 1 1 [.string x.name,.slice P2 x.params.length e2,.string x.result] rfl rfl HNW.out HON.out (by unfold maxLen at *;omega) (by omega) (by simp[World.setCell]<;>omega) ?_;intro v' We hown' hgrow hnil hloc;obtain⟨A5,c5,rfl⟩:=PZ hown';have hme:We.heap[W1.heap.size]? =some (.cells #[.slice A1 a.types.length c1,.slice A4 kk c4] 42 (0,0)):=(hgrow.block _ (by simp[World.setCell]<;>omega) (fun e=>by have:=HFS.out _ e.symm;omega)).trans HMW.out;have hm2:We.cell? ⟨W1.heap.size,1,none⟩=some (.slice A4 kk c4):=(by simp[World.cell?,hme]);have aqY:We.frozen? ⟨W1.heap.size,1,none⟩=false:=(by simp[World.frozen?,hme]);have HE:=Lib.hid (HST.out We _ hown' hgrow hloc);clear hown' hgrow hnil hloc hme)));go_roundg (a.funcs.length-(kk+1))
   case measure=>omega
   case rel=>exact⟨kk+1,_,by omega,by omega,by go_num,HE.out⟩
  ·have hltz:¬(kk:Int)<(a.funcs.length:Int):=by omega
   obtain rfl:kk=a.funcs.length:=by omega
   have hm0:=CW.out.c0;have hm1:=CW.out.c1;have hr0:=CW.out.r0;have hr1:=CW.out.r1;have hf0:=CW.out.f0 0;have hf1:=CW.out.f0 1;have hfin:∀W',W'=(wr.setCell ⟨w.heap.size+1,0,none⟩ (.slice A1 a.types.length c1)).setCell ⟨w.heap.size+1,1,none⟩ (.slice A4 a.funcs.length c4)→Below w.heap.size w W'∧bD W' (fresh w.heap.size W'.heap.size) [.slice A1 a.types.length c1,.slice A4 a.funcs.length c4] a:=by
    rintro W' rfl;have hs':((wr.setCell ⟨w.heap.size+1,0,none⟩ (.slice A1 a.types.length c1)).setCell ⟨w.heap.size+1,1,none⟩ (.slice A4 a.funcs.length c4)).heap.size=wr.heap.size:=by simp[World.setCell]
    have hlo:=CW.out.lo;have hms:=CW.out.size;have hhe:∀k,k≠w.heap.size+1→((wr.setCell ⟨w.heap.size+1,0,none⟩ (.slice A1 a.types.length c1)).setCell ⟨w.heap.size+1,1,none⟩ (.slice A4 a.funcs.length c4)).heap[k]? =wr.heap[k]? :=fun k hk=>by
     rw[Below.heap_setCell _ _ _ _ hk,Below.heap_setCell _ _ _ _ hk]
    refine⟨(CW.out.below.setCell (by simp) _).setCell (by simp) _,_,_,rfl,?_,?_⟩
    ·exact CW.out.ts.stays aW.stays (fun k hk=>⟨by have:=hk.1;omega,by have:=hk.2;omega⟩) (kC fun k hk=>hhe k (by have:=hk.1;omega))
    ·have hown2:=Hq HO.out (fun g hg=>hhe g (by have:=HO.out.lt g hg;omega));have hrow2:=HR.out;rw[List.take_of_length_le (aJ _)]at hrow2;have hrow3:=hrow2.stays fB.stays (F':=fresh w.heap.size ((wr.setCell ⟨w.heap.size+1,0,none⟩ (.slice A1 a.types.length c1)).setCell ⟨w.heap.size+1,1,none⟩ (.slice A4 a.funcs.length c4)).heap.size) (fun k hk=>⟨by have:=HG.out k hk;omega,by have:=HG.out k hk;omega⟩) (kC fun k hk=>hhe k (by have:=HG.out k hk;omega));exact IW hown2 rfl hrow3 (fun g hg=>⟨by have:=HO.out.lt g hg;omega,by have:=HO.out.lt g hg;omega⟩) (by omega) (by omega)
   have HFin:=ah hfin;clear hfin;go_wp2_with fail;exact bodyPost_ret (v:=.agg #[.slice A1 a.types.length c1,.slice A4 a.funcs.length c4]) (by simp[results,results30,go_sem,hr0,hr1]) rfl ⟨_,rfl,(HFin.out _ rfl).1,(HFin.out _ rfl).2⟩
end Go.Proofs.YtjaladhdnbhliaaGreatDoor
