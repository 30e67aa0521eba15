/- Parts. -/
import Derived.Test.YtjaladhdnbhliaaGreatDoorQTreeChk
set_option maxHeartbeats 4000000
namespace Go.Proofs.YtjaladhdnbhliaaGreatDoor
open Go.Proofs.Tryz
open Go.RowKit Go.Shelf
theorem dN.form{w:World}{F:aV}{cs:List Value}{t:Ex}(h:dN w F cs t):∃A c,cs= [.int .i64 t.kind,.int .i64 t.n,.string t.bT,.string t.s,.slice A t.args.length c]:=by
 obtain⟨n,h⟩:=h;cases n with
 |zero=>exact h.elim
 |succ n=>
  obtain⟨av,rfl,_,_,_,_,hav⟩:=h;obtain⟨A,c,rfl,_⟩:=hav.form;exact⟨A,c,rfl⟩
theorem BF.ofR{w:World}{F:aV}{cs:List Value}{t:Ex}{n:Nat}(h:BF n w F cs t):dN w F cs t:=⟨n,h⟩
theorem wO{p q:Prop}[Decidable p][Decidable q](h:p∧q):(decide p&&decide q)=true:=by simp[h.1,h.2]
theorem xO{p q:Prop}[Decidable p][Decidable q](h:¬(p∧q)):(decide p&&decide q)=false:=by
 cases hp:decide p
 ·rfl
 ·cases hq:decide q
  ·rfl
  ·exact absurd ⟨of_decide_eq_true hp,of_decide_eq_true hq⟩ h
theorem Ye(o s:ByteArray)(L:Nat):wW 1 o s L=(decide (s.size=0)&&decide (L=0)):=rfl
theorem adg(o s:ByteArray)(L:Nat):wW 5 o s L=(decide (s.size=0)&&decide (L=2)):=rfl
theorem adi(o s:ByteArray)(L:Nat):wW 7 o s L=(decide (s.size=0)&&decide (L=2)):=rfl
theorem adh(o s:ByteArray)(L:Nat):wW 6 o s L=(decide (s.size=0)&&decide (1≤L)):=rfl
theorem adb(o s:ByteArray)(L:Nat):wW 2 o s L=(jq s&&decide (L=0)):=rfl
theorem ade(o s:ByteArray)(L:Nat):wW 3 o s L=(aX s&&decide (L=0)):=rfl
theorem adf(o s:ByteArray)(L:Nat):wW 4 o s L=(aX s&&(decide (o.size=0)||aX o)):=rfl
theorem IE{k m:Int}{o s:ByteArray}{L:Nat}(hr:1≤k∧k≤7)(h8:¬8<L)(h3:¬((k≠1∧m≠0)∨(k≠4∧o.size≠0)))(he:wW k o s L=true)(h1:¬(k=1∧(m<0∨999999<m))):gK k m o s L=0:=by
 unfold gK;rw[if_neg (by omega),if_neg h8,if_neg h3,if_neg (by simp[he]),if_neg h1]
theorem alo{k m:Int}{o s:ByteArray}{L:Nat}(_hr:1≤k∧k≤7)(h8:¬8<L)(h3:¬((k≠1∧m≠0)∨(k≠4∧o.size≠0)))(he:wW k o s L=true)(h1:k=1∧(m<0∨999999<m)):gK k m o s L=2:=by
 unfold gK;rw[if_neg (by omega),if_neg h8,if_neg h3,if_neg (by simp[he]),if_pos h1]
theorem IG{k m:Int}{o s:ByteArray}{L:Nat}(hr:1≤k∧k≤7)(h8:¬8<L)(h3:¬((k≠1∧m≠0)∨(k≠4∧o.size≠0)))(he:wW k o s L=false):gK k m o s L=4:=by
 unfold gK;rw[if_neg (by omega),if_neg h8,if_neg h3,if_pos he]
set_option maxRecDepth 100000 in
theorem adk:∀(f:Nat) (x:Ex) (d:Int) (cs:List Value) (F:aV) (w:World),d+f=11→f≤10→dN w F cs x→(∀k,F k→k<w.heap.size)→
  Calls prog 116 #[.agg cs.toArray,.int .i64 d] w fun e w'=>e=wX (iE f x)∧Below w.heap.size w w':=by
 intro f
 induction f with
 |zero=>
  intro x d cs F w hd _ ht hF;obtain⟨A,cap,rfl⟩:=dN.form ht;have hdz:decide (d≤10)=false:=decide_eq_false (by omega);clear ht hd;go_enter func116,ntmps116;go_wp2_with(first|(go_at_call 71;(with_reducible refine(bF _ _).mono ?_);rintro e w' ⟨rfl,rfl⟩)|(go_at_call 71;(with_reducible refine(bQ _ _).mono ?_);rintro e w' ⟨rfl,rfl⟩));exact⟨rfl,rfl,by go_grown⟩
 |succ f ih=>
  intro x d cs F w hd hf ht hF;obtain⟨n,ht⟩:=ht;cases n with
  |zero=>exact ht.elim
  |succ n=>
   obtain⟨av,rfl,hk,hn,ho,hs,hav⟩:=ht;obtain⟨E,hE⟩:∃E,iE (f+1) x=E:=⟨_,rfl⟩;rw[hE];have hown:=fun e (h:Ik x=e) (h0:e≠0)=>(hE.symm.trans (Pn (f:=f) h h0):E=e)
   have hargs:=fun(h:Ik x=0)=>KF (f:=f) h
   obtain⟨k,m,o,s,args⟩:=x;simp only[Ex.kind,Ex.n,Ex.bT,Ex.s,Ex.args]at*;have hown:∀e,gK k m o s args.length=e→e≠0→E=e:=hown;have hargs:gK k m o s args.length=0→iE (f+1) (.mk k m o s args)=dL (iE f) args:=hargs;obtain⟨A,cap,rfl,_,_,hl1,_⟩:=hav.form;have hdz:d≤10:=by omega
   have hdl:1≤d:=by omega
   have hqs:=fun W=>FM s W hs
   have his:=fun W=>iV s W hs
   have hio:=fun W=>iV o W ho
   obtain⟨hk1,hk2⟩:=hk;obtain⟨hm1,hm2⟩:=hn;obtain⟨HD,HIH,HE,HO,HAR,HAV,HQS,HIS,HIO,Hs,Ho⟩:=aH hd ih hE hown hargs hav hqs his hio hs ho;clear hd ih hE hown hargs hav hqs his hio hs ho
   by_cases hr:1≤k∧k≤7
   ·obtain⟨hr1,hr2⟩:=hr
    by_cases h8:8<args.length
    ·have h8z:((args.length:Int)≤8)=False:=by simp;omega
     have HF:=HO.out 1 (by show gK k m o s args.length=1;unfold gK;rw[if_neg (by omega),if_pos h8]) (by decide);subst HF;go_enter func116,ntmps116;go_wp2_with(first|(go_at_call 71;(with_reducible refine(bF _ _).mono ?_);rintro e w' ⟨rfl,rfl⟩)|(go_at_call 71;(with_reducible refine(bQ _ _).mono ?_);rintro e w' ⟨rfl,rfl⟩));exact⟨rfl,rfl,by go_grown⟩
    ·have h8z:(args.length:Int)≤8:=by omega
     go_enter func116,ntmps116;go_upto_region 5 with (first|(go_at_call 71;(with_reducible refine(bF _ _).mono ?_);rintro e w' ⟨rfl,rfl⟩)|(go_at_call 71;(with_reducible refine(bQ _ _).mono ?_);rintro e w' ⟨rfl,rfl⟩))
     have hBb:=Box.made w 81 #[.int .i64 k,.int .i64 m,.string o,.string s,.slice A args.length cap];have hbb:Below w.heap.size w (w.alloc (.cells #[.int .i64 k,.int .i64 m,.string o,.string s,.slice A args.length cap] 81)):=by go_grown
     have hzb:(w.alloc (.cells #[.int .i64 k,.int .i64 m,.string o,.string s,.slice A args.length cap] 81)).heap.size=w.heap.size+1:=by simp
     generalize w.alloc (.cells #[.int .i64 k,.int .i64 m,.string o,.string s,.slice A args.length cap] 81)=W1 at hBb hbb hzb⊢;have x0:=hBb.at_ 0 _ rfl;have x1:=hBb.at_ 1 _ rfl;have x2:=hBb.at_ 2 _ rfl;have x3:=hBb.at_ 3 _ rfl;have x4:=hBb.at_ 4 _ rfl;obtain⟨HB,Hb0,Hz⟩:=ak hBb hbb hzb;clear hBb hbb hzb;go_cut [] (fun wc=>W1=wc∧Aside (¬((k≠1∧m≠0)∨(k≠4∧o.size≠0))))
     case first=>
      cases hb1:(k==1)<;>cases hb2:(m==0)<;>cases hb3:(k==4)<;>cases hb4:o.toList.isEmpty
      all_goals go_wp2_with(first|(go_at_call 71;(with_reducible refine(bF _ _).mono ?_);rintro e w' ⟨rfl,rfl⟩)|(go_at_call 71;(with_reducible refine(bQ _ _).mono ?_);rintro e w' ⟨rfl,rfl⟩))
      all_goals
       rw[bC]at hb4;simp only[beq_iff_eq,beq_eq_false_iff_ne,ne_eq,decide_eq_true_eq,decide_eq_false_iff_not]at hb1 hb2 hb3 hb4;first
        |(go_meet;exact⟨rfl,aside (by omega)⟩)
        |(refine⟨rfl,?_,Hb0.out⟩;rw[HO.out 4 (by show gK k m o s args.length=4;unfold gK;rw[if_neg (by omega),if_neg h8,if_pos (by omega)]) (by decide)];rfl)
     case rest=>
      obtain⟨rfl,h3⟩:=hcut;go_upto_block 0 with fail
      go_cut [] (fun wc=>Aside (gK k m o s args.length=0)∧Aside (Below W1.heap.size W1 wc))
      case first=>
       have hkk:k=1∨k=5∨k=6∨k=7∨k=2∨k=3∨k=4:=by omega
       rcases hkk with rfl|rfl|rfl|rfl|rfl|rfl|rfl
       ·cases hb1:s.toList.isEmpty<;>cases hb2:((args.length:Int)==0)<;>cases hb3:decide (0≤m)<;>cases hb4:decide (m≤999999)
        all_goals go_wp2_with(first|(go_at_call 71;(with_reducible refine(bF _ _).mono ?_);rintro e w' ⟨rfl,rfl⟩)|(go_at_call 71;(with_reducible refine(bQ _ _).mono ?_);rintro e w' ⟨rfl,rfl⟩))
        all_goals
         rw[bC]at hb1;simp only[beq_iff_eq,beq_eq_false_iff_ne,ne_eq,decide_eq_true_eq,decide_eq_false_iff_not]at hb1 hb2 hb3 hb4;first
          |(go_meet;exact⟨aside (IE ⟨hr1,hr2⟩ h8 h3.out (by rw[Ye];exact wO (by omega)) (by omega)),aside (Below.refl _ _)⟩)
          |(refine⟨rfl,?_,Hb0.out⟩;rw[HO.out 4 (IG ⟨hr1,hr2⟩ h8 h3.out (by rw[Ye];exact xO (by omega))) (by decide)];rfl)
          |(refine⟨rfl,?_,Hb0.out⟩;rw[HO.out 2 (alo ⟨hr1,hr2⟩ h8 h3.out (by rw[Ye];exact wO (by omega)) (by omega)) (by decide)];rfl)
       ·cases hb1:s.toList.isEmpty<;>cases hb2:((args.length:Int)==2)
        all_goals go_wp2_with(first|(go_at_call 71;(with_reducible refine(bF _ _).mono ?_);rintro e w' ⟨rfl,rfl⟩)|(go_at_call 71;(with_reducible refine(bQ _ _).mono ?_);rintro e w' ⟨rfl,rfl⟩))
        all_goals
         rw[bC]at hb1;simp only[beq_iff_eq,beq_eq_false_iff_ne,ne_eq,decide_eq_true_eq,decide_eq_false_iff_not]at hb1 hb2;first
          |(go_meet;exact⟨aside (IE ⟨hr1,hr2⟩ h8 h3.out (by rw[adg];exact wO (by omega)) (by omega)),aside (Below.refl _ _)⟩)
          |(refine⟨rfl,?_,Hb0.out⟩;rw[HO.out 4 (IG ⟨hr1,hr2⟩ h8 h3.out (by rw[adg];exact xO (by omega))) (by decide)];rfl)
       ·cases hb1:s.toList.isEmpty<;>cases hb2:decide (0<args.length)
        all_goals go_wp2_with(first|(go_at_call 71;(with_reducible refine(bF _ _).mono ?_);rintro e w' ⟨rfl,rfl⟩)|(go_at_call 71;(with_reducible refine(bQ _ _).mono ?_);rintro e w' ⟨rfl,rfl⟩))
        all_goals
         rw[bC]at hb1;simp only[decide_eq_true_eq,decide_eq_false_iff_not]at hb1 hb2;first
          |(go_meet;exact⟨aside (IE ⟨hr1,hr2⟩ h8 h3.out (by rw[adh];exact wO (by omega)) (by omega)),aside (Below.refl _ _)⟩)
          |(refine⟨rfl,?_,Hb0.out⟩;rw[HO.out 4 (IG ⟨hr1,hr2⟩ h8 h3.out (by rw[adh];exact xO (by omega))) (by decide)];rfl)
       ·cases hb1:s.toList.isEmpty<;>cases hb2:((args.length:Int)==2)
        all_goals go_wp2_with(first|(go_at_call 71;(with_reducible refine(bF _ _).mono ?_);rintro e w' ⟨rfl,rfl⟩)|(go_at_call 71;(with_reducible refine(bQ _ _).mono ?_);rintro e w' ⟨rfl,rfl⟩))
        all_goals
         rw[bC]at hb1;simp only[beq_iff_eq,beq_eq_false_iff_ne,ne_eq,decide_eq_true_eq,decide_eq_false_iff_not]at hb1 hb2;first
          |(go_meet;exact⟨aside (IE ⟨hr1,hr2⟩ h8 h3.out (by rw[adi];exact wO (by omega)) (by omega)),aside (Below.refl _ _)⟩)
          |(refine⟨rfl,?_,Hb0.out⟩;rw[HO.out 4 (IG ⟨hr1,hr2⟩ h8 h3.out (by rw[adi];exact xO (by omega))) (by decide)];rfl)
       ·have hq:=HQS.out;obtain⟨z,hz⟩:∃z,jq s=z:=⟨_,rfl⟩;rw[hz]at hq;obtain⟨HQ,Z⟩:=aj hq hz;clear hq hz;cases z<;>cases hb2:((args.length:Int)==0)
        all_goals go_wp2_with(first|(go_at_call 184;(with_reducible refine(HQ.out _).mono ?_);rintro e W2 ⟨rfl,hb2⟩;have HB2:=Lib.hid hb2;clear hb2)|(go_at_call 71;(with_reducible refine(bF _ _).mono ?_);rintro e w' ⟨rfl,rfl⟩)|(go_at_call 71;(with_reducible refine(bQ _ _).mono ?_);rintro e w' ⟨rfl,rfl⟩))
        all_goals
         have hz:=Z.out;simp only[beq_iff_eq,beq_eq_false_iff_ne,ne_eq]at hb2;first
          |(go_meet;exact⟨aside (IE ⟨hr1,hr2⟩ h8 h3.out (by rw[adb,hz];first|(simp;done)|simpa using hb2) (by omega)),aside HB2.out⟩)
          |(refine⟨rfl,?_,Hb0.out.trans (HB2.out.mono Hb0.out.size)⟩;rw[HO.out 4 (IG ⟨hr1,hr2⟩ h8 h3.out (by rw[adb,hz];first|(simp;done)|simpa using hb2)) (by decide)];rfl)
       ·have hq:=HIS.out;obtain⟨z,hz⟩:∃z,aX s=z:=⟨_,rfl⟩;rw[hz]at hq;obtain⟨HQ,Z⟩:=aj hq hz;clear hq hz;cases z<;>cases hb2:((args.length:Int)==0)
        all_goals go_wp2_with(first|(go_at_call 61;(with_reducible refine(HQ.out _).mono ?_);rintro e W2 ⟨rfl,hb2⟩;have HB2:=Lib.hid hb2;clear hb2)|(go_at_call 71;(with_reducible refine(bF _ _).mono ?_);rintro e w' ⟨rfl,rfl⟩)|(go_at_call 71;(with_reducible refine(bQ _ _).mono ?_);rintro e w' ⟨rfl,rfl⟩))
        all_goals
         have hz:=Z.out;simp only[beq_iff_eq,beq_eq_false_iff_ne,ne_eq]at hb2;first
          |(go_meet;exact⟨aside (IE ⟨hr1,hr2⟩ h8 h3.out (by rw[ade,hz];first|(simp;done)|simpa using hb2) (by omega)),aside HB2.out⟩)
          |(refine⟨rfl,?_,Hb0.out.trans (HB2.out.mono Hb0.out.size)⟩;rw[HO.out 4 (IG ⟨hr1,hr2⟩ h8 h3.out (by rw[ade,hz];first|(simp;done)|simpa using hb2)) (by decide)];rfl)
       ·have hq:=HIS.out;obtain⟨z,hz⟩:∃z,aX s=z:=⟨_,rfl⟩;rw[hz]at hq;have hq2:=HIO.out;obtain⟨z2,hz2⟩:∃z,aX o=z:=⟨_,rfl⟩;rw[hz2]at hq2;obtain⟨HQ,Z,OI,Z2⟩:=au hq hz hq2 hz2;clear hq hz hq2 hz2;go_wp2_with fail;refine(HQ.out _).mono ?_;rintro e W2 ⟨rfl,hb2⟩;have hB2:=HB.out.later hb2 HB.out.lt;clear x0 x1 x2 x3 x4;have x2:=hB2.at_ 2 _ rfl;obtain⟨HB2,cO⟩:=aj hB2 hb2;clear hB2 hb2;cases z with
        |false=>
         go_wp2_with(first|(go_at_call 71;(with_reducible refine(bF _ _).mono ?_);rintro e w' ⟨rfl,rfl⟩)|(go_at_call 71;(with_reducible refine(bQ _ _).mono ?_);rintro e w' ⟨rfl,rfl⟩));refine⟨rfl,?_,Hb0.out.trans (cO.out.mono Hb0.out.size)⟩;rw[HO.out 4 (IG ⟨hr1,hr2⟩ h8 h3.out (by simp[wW,Z.out])) (by decide)];rfl
        |true=>
         cases hb4:o.toList.isEmpty with
         |true=>
          go_wp2_with(first|(go_at_call 71;(with_reducible refine(bF _ _).mono ?_);rintro e w' ⟨rfl,rfl⟩)|(go_at_call 71;(with_reducible refine(bQ _ _).mono ?_);rintro e w' ⟨rfl,rfl⟩));rw[bC]at hb4;go_meet;exact⟨aside (IE ⟨hr1,hr2⟩ h8 h3.out (by rw[adf,Z.out,hb4];rfl) (by omega)),aside cO.out⟩
         |false=>
          go_wp2_with(first|(go_at_call 71;(with_reducible refine(bF _ _).mono ?_);rintro e w' ⟨rfl,rfl⟩)|(go_at_call 71;(with_reducible refine(bQ _ _).mono ?_);rintro e w' ⟨rfl,rfl⟩));refine(OI.out _).mono ?_;rintro e W3 ⟨rfl,hb3⟩;have HB3:=Lib.hid (cO.out.trans (hb3.mono cO.out.size));clear hb3;cases z2 with
          |false=>
           go_wp2_with(first|(go_at_call 71;(with_reducible refine(bF _ _).mono ?_);rintro e w' ⟨rfl,rfl⟩)|(go_at_call 71;(with_reducible refine(bQ _ _).mono ?_);rintro e w' ⟨rfl,rfl⟩));rw[bC]at hb4;refine⟨rfl,?_,Hb0.out.trans (HB3.out.mono Hb0.out.size)⟩;rw[HO.out 4 (IG ⟨hr1,hr2⟩ h8 h3.out (by rw[adf,Z.out,hb4,Z2.out];rfl)) (by decide)];rfl
          |true=>
           go_wp2_with(first|(go_at_call 71;(with_reducible refine(bF _ _).mono ?_);rintro e w' ⟨rfl,rfl⟩)|(go_at_call 71;(with_reducible refine(bQ _ _).mono ?_);rintro e w' ⟨rfl,rfl⟩));rw[bC]at hb4;go_meet;exact⟨aside (IE ⟨hr1,hr2⟩ h8 h3.out (by simp[wW,Z.out,Z2.out]) (by omega)),aside HB3.out⟩
      case rest=>
       obtain⟨h0,hbc⟩:=hcut;have HF:=Lib.hid (show E=dL (iE f) args from HE.out.symm.trans (HAR.out h0.out));obtain⟨W2,rfl⟩:∃W,W=wc:=⟨_,rfl⟩;have hB2:=HB.out.later hbc.out HB.out.lt;clear x0 x1 x2 x3 x4 h0 h3;have x4:=hB2.at_ 4 _ rfl;have hbw:=Hb0.out.trans (hbc.out.mono Hb0.out.size);obtain⟨HB2,cO⟩:=aj hB2 hbw;clear hB2 hbw;go_wp2_with fail;go_loopg [122] args.length (fun gg aos wr=>∃kk:Nat,kk≤args.length∧args.length-kk≤gg∧aos=.int .i64 kk∧Aside (Below W2.heap.size W2 wr)∧Aside (∀j,j<kk→∀y,args[j]? =some y→iE f y=0))
       case atStart=>exact⟨0,Nat.zero_le _,by omega,rfl,Below.refl _ _,aside (fun j hj=>absurd hj (Nat.not_lt_zero _))⟩
       case round=>
        obtain⟨kk,hkk,hg,rfl,BW,Al⟩:=hrel;have hbw:=cO.out.trans (BW.out.mono cO.out.size)
        by_cases hlt:kk<args.length
        ·have hltz:(kk:Int)<(args.length:Int):=by omega
         obtain⟨b1,off,cs,rfl,hb,hcs,hr,hcell⟩:=(HAV.out.stays (BF.stays n) (fun _ h=>h) (Keeps.of_below hbw hF)).at_ hlt;obtain⟨A2,n2,rfl⟩:=dN.form (BF.ofR hr);have hc0:=hcell 0 _ rfl;have hc1:=hcell 1 _ rfl;have hc2:=hcell 2 _ rfl;have hc3:=hcell 3 _ rfl;have hc4:=hcell 4 _ rfl;simp only[Nat.add_zero]at hc0;have hx:=aK hlt;generalize args[kk]=y at*;have hcl:=fun U (hU:Below wr.heap.size wr U)=>HIH.out y (d+1) [.int .i64 y.kind,.int .i64 y.n,.string y.bT,.string y.s,.slice A2 y.args.length n2] F U (by have:=HD.out;omega) (by omega) (dN.stays.later (BF.ofR hr) hU (bg hF hbw)) (bg (bg hF hbw) hU)
         obtain⟨z,hz⟩:∃z,iE f y=z:=⟨_,rfl⟩;rw[hz]at hcl;have hbl:=bg hF hbw _ hb;obtain⟨HX,HZ3,HC,fV⟩:=au hx hz hcl hbw;clear hx hz hcl hbw;clear hcell hr hcs;go_wp2_with fail;refine(HC.out _ (by go_grown)).mono ?_;rintro e W3 ⟨rfl,hb3⟩;have hb4:=Below.trans (show Below wr.heap.size wr _ by go_grown) (hb3.mono (by simp));have HB4:=ah hb4;clear hb4;clear hb3
         by_cases hz0:z=0
         ·subst hz0;rw[lZ];go_wp2_with fail;go_roundg (args.length-(kk+1))
          case measure=>omega
          case rel=>exact⟨kk+1,by omega,by omega,by go_num,aside (BW.out.trans (HB4.out.mono BW.out.size)),aside (fO HX.out HZ3.out Al.out)⟩
         ·rw[iK hz0];go_wp2_with fail;refine⟨rfl,?_,fV.out.trans (HB4.out.mono fV.out.size)⟩;rw[HF.out,eP HX.out HZ3.out hz0 Al.out,iK hz0]
        ·have hltz:¬(kk:Int)<(args.length:Int):=by omega
         obtain rfl:kk=args.length:=by omega
         have fV:=ah hbw;clear hbw;go_wp2_with fail
         go_end0
         exact⟨by rw[HF.out,fM Al.out];rfl,fV.out⟩
   ·have HF:=HO.out 3 (by show gK k m o s args.length=3;unfold gK;rw[if_pos (by omega)]) (by decide);subst HF
    by_cases hr1:1≤k
    ·have hr2:decide (k≤7)=false:=decide_eq_false (by omega);clear hr;go_enter func116,ntmps116;go_wp2_with(first|(go_at_call 71;(with_reducible refine(bF _ _).mono ?_);rintro e w' ⟨rfl,rfl⟩)|(go_at_call 71;(with_reducible refine(bQ _ _).mono ?_);rintro e w' ⟨rfl,rfl⟩));exact⟨rfl,rfl,by go_grown⟩
    ·clear hr;go_enter func116,ntmps116;go_wp2_with(first|(go_at_call 71;(with_reducible refine(bF _ _).mono ?_);rintro e w' ⟨rfl,rfl⟩)|(go_at_call 71;(with_reducible refine(bQ _ _).mono ?_);rintro e w' ⟨rfl,rfl⟩));exact⟨rfl,rfl,by go_grown⟩
end Go.Proofs.YtjaladhdnbhliaaGreatDoor
