/- Parts. -/
import Derived.Test.YtjaladhdnbhliaaGreatDoorQStrs
set_option maxHeartbeats 1000000
set_option maxRecDepth 100000
namespace Go.Proofs.YtjaladhdnbhliaaGreatDoor
open Go.Proofs.Tryz
open Go.RowKit Go.Shelf
def mM(c:UInt8):Bool:=decide (c.toNat<32)||(decide (126<c.toNat)||(decide (c.toNat=34)||decide (c.toNat=92)))
def jq(s:ByteArray):Bool:=decide (s.size≤20)&& !(s.data.toList.any mM)
theorem Ig(W:World)(s:ByteArray)(cap:Nat)(e:TypeId)(m:Nat×Nat)(h1:s.size≤cap)(h2:cap≤maxLen)(h3:s.size≤140737488355328):
  SliceOf U8R 1 1 (W.alloc (.cells (bytesRow s cap) e m)) (fun k=>k=W.heap.size) (.slice (some ⟨W.heap.size,0,none⟩) s.size cap) s.data.toList:=by
 have el:s.data.toList.length=s.size:=rfl;refine⟨some ⟨W.heap.size,0,none⟩,cap,by rw[el],by rw[el];exact h1,h2,by rw[el];omega,by rw[el];omega,fun _=>⟨W.heap.size,0,rfl,rfl,fun i x hi=>⟨[.int .u8 x.toNat],rfl,rfl,fun j u hj=>?_⟩⟩⟩;have hil:i<s.data.toList.length:=(List.getElem?_eq_some_iff.1 hi).1;have hj0:j=0:=by
  have:=(List.getElem?_eq_some_iff.1 hj).1;simp at this;exact this
 subst hj0;simp only[List.getElem?_cons_zero,Option.some.injEq]at hj;subst hj;have hh:(W.alloc (.cells (bytesRow s cap) e m)).heap[W.heap.size]? =some (.cells (bytesRow s cap) e m):=heap_alloc_new W _;rw[cell_of_row _ _ _ _ _ _ hh];simp only[Nat.mul_one,Nat.zero_add,Nat.add_zero,bytesRow];rw[Array.getElem?_append_left (by simp;rw[el]at hil;exact hil),Array.getElem?_map];have:s.data[i]? =some x:=by rw[←hi];simp
 rw[this]
 rfl
theorem Oc(c:UInt8)(w:World):Calls prog 238 #[.int .u8 c.toNat] w fun e w'=>e=.returned (.bool (mM c))∧w=w':=by
 have hc:(c.toNat:Int)<256:=by have:=c.toNat_lt;omega
 go_enter func238,ntmps238;go_wp2;all_goals go_ret
 all_goals (go_tidy;refine⟨dw ?_,rfl⟩;rw[Bool.eq_iff_iff];simp[mM];try omega)
theorem FM(s:ByteArray)(w:World)(hs:s.size≤140737488355328):Calls prog 184 #[.string s] w fun e w'=>e=.returned (.bool (jq s))∧Below w.heap.size w w':=by
 by_cases h:s.size≤20
 ·have h1:((s.size:Nat):Int)≤20:=by omega
  have kc:=fun w:World=>run_bytes_of_string (P:=prog) w 9 124 5 s underlying9 underlying124 underlying5
  have hf:jq s= !(s.data.toList.any mM):=by simp[jq,h]
  rw[hf];have hq:=fun(W:World) (v:Value) (F:aV) hF hv=>uy v s.data.toList F 238 #[] mM W (enters_of func238 (by kernel_rfl) rfl) hF hv
   (fun W' x cs _ _ hr=>by
    obtain rfl:cs=_:=hr;exact(Oc x W').mono fun e w' ⟨he,hw⟩=>⟨he,by subst hw;exact Below.refl _ _⟩)
  generalize s.data.toList.any mM=z at hq⊢;have HQ:=Lib.hid hq;clear hq hf;go_enter func184,ntmps184;go_wp2_with fail;refine(HQ.out _ _ _ (fun k hk=>by rw[hk];simp) ((Ig w s (grownCap w s.size 0 5) 5 _ (grownCap_ge _ _ _ _) (grownCap_le_maxLen _ _ _ _ (by unfold maxLen;omega)) hs).stays U8R.stays (fun _ h=>h) (Keeps.drew (Keeps.refl _ _)))).mono ?_;rintro e w' ⟨rfl,hb⟩;go_wp2;go_ret;exact⟨rfl,((Below.refl _ _).alloc (aJ _) _).drew.trans (hb.mono (by simp))⟩
 ·have h1:¬((s.size:Nat):Int)≤20:=by omega
  have hf:jq s=false:=by simp[jq,h]
  rw[hf];go_enter func184,ntmps184;go_wp2_with fail;go_ret;exact⟨rfl,Below.refl _ _⟩
def inB(n lo hi:Int):Bool:=decide (lo≤n)&&decide (n≤hi)
theorem iw(n lo hi:Int)(w:World):Calls prog 139 #[.int .i64 n,.int .i64 lo,.int .i64 hi] w fun e w'=>e=.returned (.bool (inB n lo hi))∧w=w':=by
 go_enter func139,ntmps139;go_wp2;all_goals go_ret
 all_goals (go_tidy;refine⟨dw ?_,rfl⟩;rw[Bool.eq_iff_iff];simp[inB];try omega)
theorem FN (s : ByteArray) (w : World) (hs : s.size ≤ 140737488355328) : Calls prog 205 #[.string s] w fun e w' => e = .returned (.bool (jq s)) ∧ w = w' := by
  go_enter func205, ntmps205
  go_wp2
  go_loopg [3] s.size (fun gg s3 wr => ∃ kk : Nat, kk ≤ s.size ∧ s.size - kk ≤ gg ∧ s3 = .int .i64 kk ∧ wr = w ∧ Aside (∀ j, j < kk → ∀ x, s.data.toList[j]? = some x → mM x = false))
  case atStart => exact ⟨0, Nat.zero_le _, by omega, rfl, rfl, (show Aside _ from fun j hj => absurd hj (Nat.not_lt_zero _))⟩
  case round =>
    obtain ⟨kk, hkk, hg, rfl, rfl, A1⟩ := hrel
    by_cases hlt : kk < s.size
    · have hltz : (kk : Int) < (s.size : Int) := by omega
      have hb : (s[kk].toNat : Int) < 256 := by have := s[kk].toNat_lt; omega
      go_wp2_with (go_at_call 139; refine (iw _ _ _ _).mono ?_; rintro e w' ⟨rfl, rfl⟩)
      all_goals first
        | (go_ret; go_tidy; refine ⟨dw ?_, rfl⟩
           have hq : mM s[kk] = true := by (simp [mM, inB] at *; omega)
           simp [jq, Ba (gY s kk hlt) hq])
        | (have hq : mM s[kk] = false := by (simp [mM, inB] at *; omega)
           go_roundg (s.size - (kk + 1))
           case measure => omega
           case rel => exact ⟨kk + 1, by omega, by omega, by go_num, rfl, (show Aside _ from qG (gY s kk hlt) hq A1.out)⟩)
    · have hltz : ¬ (kk : Int) < (s.size : Int) := by omega
      obtain rfl : kk = s.size := by omega
      go_wp2
      go_ret
      refine ⟨dw ?_, rfl⟩
      have := wK (Nat.le_of_eq (tH s)) A1.out
      rw [Bool.eq_iff_iff]; simp [jq, this]; omega
def fQ(c:UInt8):Bool:=decide (97≤c.toNat)&&decide (c.toNat≤122)
def fC(c:UInt8):Bool:=decide (48≤c.toNat)&&decide (c.toNat≤57)
def nJ(c:UInt8):Bool:= !(fQ c)&& !(fC c)
def oH(s:ByteArray):Bool:=match s.data.toList with
 |[]=>false
 |c::_=>decide (s.size≤8)&&(fQ c&& !(s.data.toList.any nJ))
theorem xC(c:UInt8)(w:World):Calls prog 180 #[.int .u8 c.toNat] w fun e w'=>e=.returned (.bool (fQ c))∧w=w':=by
 have hc:(c.toNat:Int)<256:=by have:=c.toNat_lt;omega
 go_enter func180,ntmps180;go_wp2;all_goals go_ret
 all_goals (go_tidy;refine⟨dw ?_,rfl⟩;rw[Bool.eq_iff_iff];simp[fQ];try omega)
theorem O7(c:UInt8)(w:World):Calls prog 183 #[.int .u8 c.toNat] w fun e w'=>e=.returned (.bool (fC c))∧w=w':=by
 have hc:(c.toNat:Int)<256:=by have:=c.toNat_lt;omega
 go_enter func183,ntmps183;go_wp2;all_goals go_ret
 all_goals (go_tidy;refine⟨dw ?_,rfl⟩;rw[Bool.eq_iff_iff];simp[fC];try omega)
theorem abW(c:UInt8)(w:World):Calls prog 182 #[.int .u8 c.toNat] w fun e w'=>e=.returned (.bool (nJ c))∧w=w':=by
 go_enter func182,ntmps182;go_wp2_with(first
  |(go_at_call 180;refine(xC _ _).mono ?_;rintro e w' ⟨rfl,rfl⟩)
  |(go_at_call 183;refine(O7 _ _).mono ?_;rintro e w' ⟨rfl,rfl⟩))
 all_goals go_ret
 all_goals (go_tidy;refine⟨dw ?_,rfl⟩;simp_all [nJ])
theorem Ea{s:ByteArray}(h:s.size=0):oH s=false:=by
 have:s.data.toList= []:=List.length_eq_zero_iff.1 h;simp[oH,this]
theorem vS{s:ByteArray}(h:0<s.size):oH s=(decide (s.size≤8)&&(fQ s[0]&& !(s.data.toList.any nJ))):=by
 have h0:s.data.toList[0]? =some s[0]:=gY s 0 h;cases hl:s.data.toList with
 |nil=>rw[hl]at h0;cases h0
 |cons c r=>
  rw[hl]at h0;simp only[List.getElem?_cons_zero,Option.some.injEq]at h0;rw[←h0];unfold oH;rw[hl]
theorem Xp(s:ByteArray)(w:World)(hs:s.size≤140737488355328):Calls prog 112 #[.string s] w fun e w'=>e=.returned (.bool (oH s))∧Below w.heap.size w w':=by
 by_cases h0:s.size=0
 ·obtain rfl:=aao h0;rw[Ea h0];go_enter func112,ntmps112;go_wp2_with fail;go_ret;exact⟨rfl,Below.refl _ _⟩
 ·have h0':0<s.size:=by omega
  have hf:=vS h0';rw[hf];have hne:(!s.toList.isEmpty)=true:=by rw[bC];simp[h0]
  clear hf
  by_cases h8:s.size≤8
  ·have h8z:(s.size:Int)≤8:=by omega
   rw[decide_eq_true h8,Bool.true_and];cases hq:fQ s[0]with
   |false=>
    go_enter func112,ntmps112;go_wp2_with(go_at_call 180;refine(xC _ _).mono ?_;rintro e w' ⟨rfl,rfl⟩);go_ret;exact⟨rfl,Below.refl _ _⟩
   |true=>
    have kc:=fun w:World=>run_bytes_of_string (P:=prog) w 9 124 5 s underlying9 underlying124 underlying5
    have hcf:=fun(W:World) (v:Value) (F:aV) hF hv=>uy v s.data.toList F 182 #[] nJ W (enters_of func182 (by kernel_rfl) rfl) hF hv
     (fun W' x cs _ _ hr=>by
      obtain rfl:cs=_:=hr;exact(abW x W').mono fun e w' ⟨he,hw⟩=>⟨he,by subst hw;exact Below.refl _ _⟩)
    rw[Bool.true_and];generalize s.data.toList.any nJ=z at hcf⊢;have HQ:=Lib.hid hcf;clear hcf;go_enter func112,ntmps112;go_wp2_with(go_at_call 180;refine(xC _ _).mono ?_;rintro e w' ⟨rfl,rfl⟩);refine(HQ.out _ _ _ (fun k hk=>by rw[hk];simp) ((Ig w s (grownCap w s.size 0 5) 5 _ (grownCap_ge _ _ _ _) (grownCap_le_maxLen _ _ _ _ (by unfold maxLen;omega)) hs).stays U8R.stays (fun _ h=>h) (Keeps.drew (Keeps.refl _ _)))).mono ?_;rintro e w' ⟨rfl,hb⟩;go_wp2;go_ret;exact⟨rfl,((Below.refl _ _).alloc (aJ _) _).drew.trans (hb.mono (by simp))⟩
  ·have h8z:¬(s.size:Int)≤8:=by omega
   rw[decide_eq_false h8];go_enter func112,ntmps112;go_wp2_with fail;go_ret;exact⟨rfl,Below.refl _ _⟩
theorem KH{p:UInt8→Bool}{l:List UInt8}{k:Nat}{y:UInt8}(hk:l[k]? =some y)(h:k=0→p y=true)(hb:∀_:0<k,∀x,l[0]? =some x→p x=true):∀_:0<k+1,∀x,l[0]? =some x→p x=true:=by
 intro _ x hx
 by_cases e:k=0
 ·subst e;rw[hk]at hx;injection hx with hx
  rw[←hx];exact h rfl
 ·exact hb (by omega) x hx
theorem I9(s:ByteArray)(w:World)(hs:s.size≤140737488355328):Calls prog 164 #[.string s] w fun e w'=>e=.returned (.bool (oH s))∧w=w':=by
 go_enter func164,ntmps164;go_wp2;go_loopg [3] s.size (fun gg s3 wr=>∃kk:Nat,kk≤s.size∧s.size-kk≤gg∧s3=.int .i64 kk∧wr=w∧Aside (∀j,j<kk→∀x,s.data.toList[j]? =some x→nJ x=false)∧Aside (∀h:0<kk,∀x,s.data.toList[0]? =some x→fQ x=true))
 case atStart=>exact⟨0,Nat.zero_le _,by omega,rfl,rfl,(show Aside _ from fun j hj=>absurd hj (Nat.not_lt_zero _)),(show Aside _ from fun h=>absurd h (Nat.lt_irrefl _))⟩
 case round=>
  obtain⟨kk,hkk,hg,rfl,rfl,A1,A2⟩:=hrel
  by_cases hlt:kk<s.size
  ·have hltz:(kk:Int)<(s.size:Int):=by omega
   have hb:(s[kk].toNat:Int)<256:=by have:=s[kk].toNat_lt;omega
   go_wp2_with(go_at_call 139;refine(iw _ _ _ _).mono ?_;rintro e w' ⟨rfl,rfl⟩)
   ·have hq:nJ s[kk]=false:=by(simp[nJ,fQ,fC,inB]at *;omega)
    have hq2:kk=0→fQ s[kk]=true:=by(intro e;simp[fQ,inB]at *;omega)
    go_roundg (s.size-(kk+1))
    case measure=>omega
    case rel=>exact⟨kk+1,by omega,by omega,by go_num,rfl,(show Aside _ from qG (gY s kk hlt) hq A1.out),(show Aside _ from KH (gY s kk hlt) hq2 A2.out)⟩
   ·go_ret;go_tidy;refine⟨dw ?_,rfl⟩;rw[vS (by omega)];have e:kk=0:=by assumption
    subst e;have hq:fQ s[0]=false:=by(simp[fQ,inB]at *;omega)
    simp[hq]
   ·go_ret;go_tidy;refine⟨dw ?_,rfl⟩;rw[vS (by omega)];have hq:nJ s[kk]=true:=by(simp[nJ,fQ,fC,inB]at *;omega)
    simp[Ba (gY s kk hlt) hq]
   ·have hq:nJ s[kk]=false:=by(simp[nJ,fQ,fC,inB]at *;omega)
    have hq2:kk=0→fQ s[kk]=true:=by(intro e;simp[fQ,inB]at *;omega)
    go_roundg (s.size-(kk+1))
    case measure=>omega
    case rel=>exact⟨kk+1,by omega,by omega,by go_num,rfl,(show Aside _ from qG (gY s kk hlt) hq A1.out),(show Aside _ from KH (gY s kk hlt) hq2 A2.out)⟩
  ·have hltz:¬(kk:Int)<(s.size:Int):=by omega
   obtain rfl:kk=s.size:=by omega
   go_wp2_with(go_at_call 139;refine(iw _ _ _ _).mono ?_;rintro e w' ⟨rfl,rfl⟩);go_ret;refine⟨dw ?_,rfl⟩;have h1:=wK (Nat.le_of_eq (tH s)) A1.out
   by_cases h0:s.size=0
   ·rw[Ea h0,h0];rfl
   ·rw[vS (by omega),h1,A2.out (by omega) _ (gY s 0 (by omega)),Bool.eq_iff_iff];simp[inB];omega
def iU(e:Int):PanicEntry:= { v:=.iface 176 (.agg #[.int .i64 e]),recovered:=false }
def wX(e:Int):Ending:=if e=0 then .returned (.tuple #[])else .panicked [iU e]
theorem iK{e:Int}(h:e≠0):wX e=.panicked [iU e]:=by unfold wX;rw[if_neg h]
theorem lZ:wX 0=.returned (.tuple #[]):=rfl
theorem bF(e:Int)(w:World):Calls prog 71 #[.bool true,.int .i64 e] w fun en w'=>en=.returned (.tuple #[])∧w=w':=by
 go_enter func71,ntmps71;go_wp2
 go_end0
 exact⟨rfl,rfl⟩
theorem bQ(e:Int)(w:World):Calls prog 71 #[.bool false,.int .i64 e] w fun en w'=>en=.panicked [iU e]∧w=w':=by
 go_enter func71,ntmps71;go_wp2;exact⟨rfl,rfl,rfl⟩
theorem wP(p:Addr)(x e:Int)(w:World)(hc:w.cell? p=some (.int .i64 x))(hz:w.frozen? p=false):
  CallsD prog 70 #[.pointer (some p)] (.panicking [iU e]) w fun en u' w'=>
   en=.returned (.tuple #[])∧u'=.panicking [{ v:=.iface 176 (.agg #[.int .i64 e]),recovered:=true }]∧w'=(w.alloc (.cells #[.int .i64 e] 176)).setCell p (.int .i64 e):=by
 unfold iU;have hlt:=World.block_lt_of_cell? w _ hc;have hta:∀u:World,(Instr.typeAssert (.iface 176 (.agg #[.int .i64 e])) 20 176 true).run prog u=.ok (.tuple #[.agg #[.int .i64 e],.bool true]) u:=fun _=>by kernel_rfl
 refine callsD_of_wpS func70 rfl fun c₀ cs hu=>?_
 apply wpS_seq;apply wpS_region;simp[wpOpsS,go_sem,recoverD,hu,ntmps70,Exit.thenS];apply wpS_seq;apply wpS_seq;apply wpS_region;simp[wpOpsS,go_sem,Exit.thenS];refine wpS_cond (t:=false) (by simp[Act.eval,Array.replicate]) ?_;simp only[Bool.false_eq_true,if_false];refine wpS_of_wp (wp_skip ?_);simp only[Exit.thenS];apply wpS_seq;apply wpS_region;simp[wpOpsS,go_sem,Exit.thenS,hta,Oper.upon];apply wpS_seq;apply wpS_seq;apply wpS_region;simp[wpOpsS,go_sem,Exit.thenS];refine wpS_cond (t:=false) (by simp[Act.eval,Array.replicate]) ?_;simp only[Bool.false_eq_true,if_false];refine wpS_of_wp (wp_skip ?_);simp only[Exit.thenS];apply wpS_region;have hc2:∀o:Obj,(w.alloc o).cell? p=some (.int .i64 x):=fun o=>by rw[World.cell?_alloc_lt _ _ _ hlt];exact hc
 have hz2:∀o:Obj,(w.alloc o).frozen? p=false:=fun o=>by rw[World.frozen?_alloc_old _ _ _ (by omega)];exact hz
 simp[wpOpsS,go_sem,hc2,hz2,bodyPostS,results,results70]
theorem Ii(p:Addr)(w:World):
  CallsD prog 70 #[.pointer (some p)] .returning w fun en u' w'=>en=.returned (.tuple #[])∧u'=.returning∧w'=w:=by
 refine callsD_of_wpS func70 rfl fun c₀ cs hu=>?_
 apply wpS_seq;apply wpS_region;simp[wpOpsS,go_sem,recoverD,hu,ntmps70,Exit.thenS];apply wpS_seq;apply wpS_seq;apply wpS_region;simp[wpOpsS,go_sem,Exit.thenS];refine wpS_cond (t:=true) (by simp[Act.eval,Array.replicate]) ?_;simp only[if_true];refine wpS_of_wp (wp_ret ?_);cases c₀
 simp_all [bodyPostS,results,results70,Exit.thenS]
theorem aW.one{w:World}{F:aV}:∀cs x,aW w F cs x→∀u∈cs,u.oneCell'=true:=by
 rintro _ x ⟨rfl,_⟩ u hu;simp at hu;rcases hu with rfl|rfl<;>rfl
theorem aY.one{w:World}{F:aV}:∀cs x,aY w F cs x→∀u∈cs,u.oneCell'=true:=by
 rintro _ x ⟨rfl,_⟩ u hu;simp at hu;subst hu;rfl
theorem bn.one{w:World}{F:aV}:∀cs x,bn w F cs x→∀u∈cs,u.oneCell'=true:=by
 rintro _ x ⟨rfl,_⟩ u hu;simp at hu;rcases hu with rfl|rfl<;>rfl
theorem Jg(v:Value)(l:List Known)(F:aV)(w:World)(h:SliceOf aW 2 32 w F v l)(_hF:∀k,F k→k<w.heap.size):
  Calls prog 69 #[v] w fun e w'=>∃v',e=.returned v'∧Below w.heap.size w w'∧aZ aW 2 100 w.heap.size w' none_ v' l:=by
 obtain⟨A,cap,rfl,hlc,hcm,hl2,hl3⟩:=h.form;cases A with
 |none=>
  have hl0:l= []:=by
   cases l with
   |nil=>rfl
   |cons x xs=>obtain⟨_,_,_,e,_⟩:=h.at_ (k:=0) (by simp);cases e
  subst hl0;have hE:(binOp .eql 39 (.slice none 0 cap) (.slice none 0 0)).run prog w=.ok (.bool true) w:=Lib.run_eql_slice_nil w _ _ none 0 cap 0 0 underlying39;go_enter func69,ntmps69;go_wp2;go_ret;exact⟨_,rfl,Below.refl _ _,aZ.nil_⟩
 |some ad=>
  obtain⟨xs,hrows,hcells,hone⟩:=h.rows aW.one;obtain⟨i0,hi,hz0,hz1,hz2⟩:=info_parts (show(prog.info? 100).map (fun i=>(i.zero,i.size,i.bytes))=some (some (.agg #[.string ⟨#[]⟩,.string ⟨#[]⟩]:Value),2,32)by kernel_rfl);have hnews:∀j u,xs[j]? =some u→(w.alloc (.cells #[] 100)).cell? (ad.add j)=some u:=fun j u hj=>by
   have hc:=hcells j u hj;rw[World.cell?_alloc_lt _ _ _ (World.block_lt_of_cell? w _ hc)];exact hc
  have hown:=World.ownsRow_made (e:=100) (size:=2) w #[] 0 (aJ _) (Nat.zero_le _) (by simp);obtain⟨HN,HO,HR,H1⟩:=au hnews hown hrows hone;clear hnews hown hrows hone hcells h;have hE:(binOp .eql 39 (.slice (some ad) l.length cap) (.slice none 0 0)).run prog w=.ok (.bool false) w:=Lib.run_eql_slice_nil w _ _ (some ad) l.length cap 0 0 underlying39;go_enter func69,ntmps69;go_wp2_with(at_builtin;refine wpList_append_own_at _ rfl _ _ 39 rfl w.heap.size 100 i0 (.agg #[.string ⟨#[]⟩,.string ⟨#[]⟩]) 2 32 underlying39 hi hz0 hz1 hz2 rfl (by decide) _ _ _ rfl HO.out ad l.length cap xs rfl HR.out.1 HN.out H1.out (by unfold maxLen at *;omega) (by omega) (by simp) ?_;intro v' w1 hown' hgrow hnil hloc);go_ret;have hown2:w1.ownsRow w.heap.size 100 2 v' l.length xs:=by simpa using hown'
  have hb:Below w.heap.size w w1:=Below.grown ((Below.refl _ _).alloc (aJ _) _) hgrow (by simp) (fun j hj=>(HO.out.lt j hj).1);exact⟨_,rfl,hb,xs,hown2,⟨HR.out.1,fun i x hi=>HR.out.2 i x hi⟩,fun _ h=>h.elim⟩
theorem QK(v:Value)(l:List Known)(F:aV)(w:World)(h:SliceOf aW 2 32 w F v l)(hF:∀k,F k→k<w.heap.size):
  Calls prog 69 #[v] w fun e w'=>∃v',e=.returned v'∧Below w.heap.size w w'∧SliceOf aW 2 32 w' (fresh w.heap.size w'.heap.size) v' l:=by
 obtain⟨_,_,_,_,_,h1,h2⟩:=h.form;exact(Jg v l F w h hF).mono fun e w' ⟨v',he,hb,ho⟩=>⟨v',he,hb,ho.slice aW.stays (fun _ h=>h.elim) (fun k h1 h2=>⟨h1,h2⟩) h2 h1⟩
theorem BZ(v:Value)(l:List ByteArray)(F:aV)(w:World)(h:SliceOf aY 1 16 w F v l)(_hF:∀k,F k→k<w.heap.size):
  Calls prog 60 #[v] w fun e w'=>∃v',e=.returned v'∧Below w.heap.size w w'∧aZ aY 1 9 w.heap.size w' none_ v' l:=by
 obtain⟨A,cap,rfl,hlc,hcm,hl2,hl3⟩:=h.form;cases A with
 |none=>
  have hl0:l= []:=by
   cases l with
   |nil=>rfl
   |cons x xs=>obtain⟨_,_,_,e,_⟩:=h.at_ (k:=0) (by simp);cases e
  subst hl0;have hE:(binOp .eql 23 (.slice none 0 cap) (.slice none 0 0)).run prog w=.ok (.bool true) w:=Lib.run_eql_slice_nil w _ _ none 0 cap 0 0 underlying23;go_enter func60,ntmps60;go_wp2;go_ret;exact⟨_,rfl,Below.refl _ _,aZ.nil_⟩
 |some ad=>
  obtain⟨xs,hrows,hcells,hone⟩:=h.rows aY.one;obtain⟨i0,hi,hz0,hz1,hz2⟩:=info_parts (show(prog.info? 9).map (fun i=>(i.zero,i.size,i.bytes))=some (some (.string ⟨#[]⟩:Value),1,16)by kernel_rfl);have hnews:∀j u,xs[j]? =some u→(w.alloc (.cells #[] 9)).cell? (ad.add j)=some u:=fun j u hj=>by
   have hc:=hcells j u hj;rw[World.cell?_alloc_lt _ _ _ (World.block_lt_of_cell? w _ hc)];exact hc
  have hown:=World.ownsRow_made (e:=9) (size:=1) w #[] 0 (aJ _) (Nat.zero_le _) (by simp);obtain⟨HN,HO,HR,H1⟩:=au hnews hown hrows hone;clear hnews hown hrows hone hcells h;have hE:(binOp .eql 23 (.slice (some ad) l.length cap) (.slice none 0 0)).run prog w=.ok (.bool false) w:=Lib.run_eql_slice_nil w _ _ (some ad) l.length cap 0 0 underlying23;go_enter func60,ntmps60;go_wp2_with(at_builtin;refine wpList_append_own_at _ rfl _ _ 23 rfl w.heap.size 9 i0 (.string ⟨#[]⟩) 1 16 underlying23 hi hz0 hz1 hz2 rfl (by decide) _ _ _ rfl HO.out ad l.length cap xs rfl HR.out.1 HN.out H1.out (by unfold maxLen at *;omega) (by omega) (by simp) ?_;intro v' w1 hown' hgrow hnil hloc);go_ret;have hown2:w1.ownsRow w.heap.size 9 1 v' l.length xs:=by simpa using hown'
  have hb:Below w.heap.size w w1:=Below.grown ((Below.refl _ _).alloc (aJ _) _) hgrow (by simp) (fun j hj=>(HO.out.lt j hj).1);exact⟨_,rfl,hb,xs,hown2,⟨HR.out.1,fun i x hi=>HR.out.2 i x hi⟩,fun _ h=>h.elim⟩
theorem Ku(v:Value)(l:List ByteArray)(F:aV)(w:World)(h:SliceOf aY 1 16 w F v l)(hF:∀k,F k→k<w.heap.size):
  Calls prog 60 #[v] w fun e w'=>∃v',e=.returned v'∧Below w.heap.size w w'∧SliceOf aY 1 16 w' (fresh w.heap.size w'.heap.size) v' l:=by
 obtain⟨_,_,_,_,_,h1,h2⟩:=h.form;exact(BZ v l F w h hF).mono fun e w' ⟨v',he,hb,ho⟩=>⟨v',he,hb,ho.slice aY.stays (fun _ h=>h.elim) (fun k h1 h2=>⟨h1,h2⟩) h2 h1⟩
theorem Au{F:aV}{B:Nat}{w W:World}(h:∀k,F k→k<w.heap.size)(hb:Below B w W):∀k,F k→k<W.heap.size:=fun k hk=>Nat.lt_of_lt_of_le (h k hk) hb.size
def y7(a b:kR):Bool:=iT a.name b.name&&(iT a.result b.result&&listEq iT a.params b.params)
def rP(a b:gU):Bool:=listEq yw a.types b.types&&listEq y7 a.funcs b.funcs
def Apart(v v':Value):Prop:=∀g,v.ownBlock=some g→v'.ownBlock≠some g
theorem Apart.symm{v v':Value}(h:Apart v v'):Apart v' v:=fun g h1 h2=>h g h2 h1
theorem Apart.push{v v2 v':Value}{n:Nat}(h:Apart v v')(hv:v2.ownBlock=v.ownBlock∨∃g,v2.ownBlock=some g∧n≤g)(hl:∀g,v'.ownBlock=some g→g<n):Apart v2 v':=by
 intro g h1 h2;rcases hv with hv|⟨g',hv,hg⟩
 ·exact h g (hv.symm.trans h1) h2
 ·rw[h1]at hv;injection hv with hv;subst hv
  have:=hl g h2;omega
theorem aZ.grew{α:Type}{R:CR α}{sz base b2:Nat}{e:TypeId}{w w':World}{v v':Value}{l:List α}(hR:eH R)(h:aZ R sz e base w none_ v l)(hg:Grew b2 w w' v'.ownBlock)(ha:Apart v v'):aZ R sz e base w' none_ v l:=
 h.kept hR hg.size fun k hk hor=>hg.block k hk (fun e=>hor.elim id fun h1=>ha k h1 e.symm)
theorem SliceOf.caps{α:Type}{R:CR α}{sz jZ:Nat}{F:aV}{w:World}{A:Option Addr}{n c:Nat}{l:List α}(h:SliceOf R sz jZ w F (.slice A n c) l):n≤c∧c≤9223372036854775807:=by
 obtain⟨A',c',e,h1,h2,_⟩:=h;injection e with e1 e2 e3
 subst e2;subst e3;exact⟨h1,by unfold maxLen at h2;omega⟩
end Go.Proofs.YtjaladhdnbhliaaGreatDoor
