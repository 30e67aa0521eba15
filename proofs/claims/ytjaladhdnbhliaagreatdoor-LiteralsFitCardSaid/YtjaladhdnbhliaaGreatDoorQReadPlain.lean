/- Parts. -/
import Derived.Test.YtjaladhdnbhliaaGreatDoorQBytes
namespace Go.Proofs.YtjaladhdnbhliaaGreatDoor
open Go.RowKit
abbrev Pr(α:Type):=List Token→Except Int (α×List Token)
def mt:ByteArray:=⟨#[]⟩
theorem fP:okS mt:=by unfold okS mt;decide
def eX(s:ByteArray):List Token→Option (List Token)
 |[]=>none
 |t::r=>if t.kind=4∧iT t.text s=true then some r else none
def dG(s:ByteArray):Pr Unit:=fun l=>match eX s l with
 |some r=>.ok ((),r)
 |none=>.error 4
def fJ:Pr ByteArray
 |[]=>.error 4
 |t::r=>if t.kind=1∧aX t.text=true then .ok (t.text,r)else .error 4
def aO{α β:Type}(p:Pr α)(f:α→Pr β):Pr β:=fun l=>match p l with
 | .error e=>.error e
 | .ok (x,r)=>f x r
def bJ{α:Type}(x:α):Pr α:=fun l=>.ok (x,l)
def iL{α:Type}(s:ByteArray)(p q:Pr α):Pr α:=fun l=>match eX s l with
 |some r=>p r
 |none=>q l
def LW{α:Type}(e:Int):Pr α:=fun _=>.error e
def sEq:ByteArray:=⟨#[61]⟩
def Y4:ByteArray:=⟨#[40]⟩
def Qe:ByteArray:=⟨#[41]⟩
def Vt:ByteArray:=⟨#[91]⟩
def Xz:ByteArray:=⟨#[93]⟩
def nS:ByteArray:=⟨#[44]⟩
def IQ:ByteArray:=⟨#[43]⟩
def RY:ByteArray:=⟨#[46]⟩
def rX:ByteArray:=⟨#[58]⟩
def sLt:ByteArray:=⟨#[60]⟩
def sGt:ByteArray:=⟨#[62]⟩
def uS:Pr Ty
 |[]=>.error 4
 |t::r=>
  if t.kind≠1 then .error 4
  else if iT t.text pI=true then .ok (.mk 1 mt mt [],r)
  else if iT t.text nP=true then .ok (.mk 2 mt mt [],r)
  else if aX t.text=false then .error 4
  else iL RY (aO fJ fun n=>bJ (.mk 4 t.text n [])) (bJ (.mk 4 mt t.text [])) r
def iM:Nat→Pr Ty
 |0=>LW 1
 |f+1=>iL Vt (aO (iM f) fun t=>aO (dG Xz) fun _=>bJ (.mk 3 mt mt [t])) uS
def sumOf(x y:Ex):Ex:=.mk 5 0 mt mt [x,y]
def QF(x y:Ex):Ex:=.mk 7 0 mt mt [x,y]
def lT(post:Pr Ex):Nat→Ex→Pr Ex
 |0,x=>bJ x
 |n+1,x=>iL IQ (aO post fun y=>lT post n (sumOf x y)) (bJ x)
def pR(ex:Pr Ex):Nat→Ex→Pr Ex
 |0,x=>bJ x
 |n+1,x=>iL Vt (aO ex fun y=>aO (dG Xz) fun _=>pR ex n (QF x y)) (bJ x)
def lS(ex:Pr Ex):Nat→List Ex→Pr (List Ex)
 |0,xs=>bJ xs
 |n+1,xs=>iL nS (aO ex fun y=>lS ex n (xs++ [y])) (bJ xs)
def rV(ex:Pr Ex)(s:ByteArray):Pr (List Ex):=aO ex fun x=>aO (fun l=>lS ex l.length [x] l) fun xs=>aO (dG s) fun _=>bJ xs
def uP(ex:Pr Ex)(o s:ByteArray):Pr Ex:=iL Qe (bJ (.mk 4 0 o s [])) (aO (rV ex Qe) fun xs=>bJ (.mk 4 0 o s xs))
def sW(ex:Pr Ex)(s:ByteArray):Pr Ex:=
 iL RY (aO fJ fun n=>aO (dG Y4) fun _=>uP ex s n) (iL Y4 (uP ex mt s) (bJ (.mk 3 0 mt s [])))
def AB(ex:Pr Ex):Pr Ex
 |[]=>.error 4
 |t::r=>
  if t.kind=3 then .ok (.mk 2 0 mt t.text [],r)
  else if t.kind=2 then .ok (.mk 1 (spell 0 t.text.data.toList:Nat) mt mt [],r)
  else if t.kind=1∧aX t.text=true then sW ex t.text r
  else .error 4
def yD(ex:Pr Ex):Pr Ex:=
 iL Y4 (aO ex fun x=>aO (dG Qe) fun _=>bJ x) (iL Vt (aO (rV ex Xz) fun xs=>bJ (.mk 6 0 mt mt xs)) (AB ex))
def lq(ex:Pr Ex):Pr Ex:=aO (yD ex) fun x l=>pR ex l.length x l
def bV:Nat→Pr Ex
 |0=>LW 1
 |f+1=>aO (lq (bV f)) fun x l=>lT (lq (bV f)) l.length x l
def IJ:Pr Field:=aO fJ fun n=>aO (dG rX) fun _=>aO (iM 40) fun t=>bJ ⟨n,t⟩
def jF:Nat→List Field→Pr (List Field)
 |0,_=>LW 4
 |n+1,ps=>iL Qe (bJ ps) (aO (if ps.length=0 then bJ ()else dG nS) fun _=>aO IJ fun p=>jF n (ps++ [p]))
def Vo:Pr ByteArray:=iL sLt (aO fJ fun v=>aO (dG sGt) fun _=>bJ v) (bJ mt)
def xw:Pr Func:=aO fJ fun n=>aO Vo fun v=>aO (dG Y4) fun _=>aO (fun l=>jF (l.length+1) [] l) fun ps=>
 aO (dG rX) fun _=>aO (iM 40) fun t=>aO (dG sEq) fun _=>aO (bV 40) fun x=>bJ ⟨n,v,ps,t,x⟩
def nD:Pr Field:=aO fJ fun n=>aO (dG sEq) fun _=>aO (iM 40) fun t=>bJ ⟨n,t⟩
def uQ{α:Type}(p:Pr α):Pr α:=aO p fun x l=>match l with
 |[]=>.ok (x,[])
 |_::_=>.error 4
def Ap(m:Module):List Token→Except Int Module
 |[]=>.ok m
 |t::r=>
  if t.kind≠1 then .error 4
  else if iT t.text LC=true then(uQ fJ r).map fun x=> { m with uses:=m.uses++ [x.1] }
  else if iT t.text Dv=true then(uQ nD r).map fun x=> { m with types:=m.types++ [x.1] }
  else if iT t.text Du=true then(uQ xw r).map fun x=> { m with funcs:=m.funcs++ [x.1] }
  else .error 4
theorem mJ(s:ByteArray)(t:Token)(r:List Token):eX s (t::r)=if t.kind=4∧iT t.text s=true then some r else none:=rfl
theorem kT(t:Token)(r:List Token):fJ (t::r)=if t.kind=1∧aX t.text=true then .ok (t.text,r)else .error 4:=rfl
theorem jW(t:Token)(r:List Token):uS (t::r)=if t.kind≠1 then .error 4
  else if iT t.text pI=true then .ok (.mk 1 mt mt [],r)
  else if iT t.text nP=true then .ok (.mk 2 mt mt [],r)
  else if aX t.text=false then .error 4
  else iL RY (aO fJ fun n=>bJ (.mk 4 t.text n [])) (bJ (.mk 4 mt t.text [])) r:=rfl
theorem jd(ex:Pr Ex)(t:Token)(r:List Token):AB ex (t::r)=if t.kind=3 then .ok (.mk 2 0 mt t.text [],r)
  else if t.kind=2 then .ok (.mk 1 (spell 0 t.text.data.toList:Nat) mt mt [],r)
  else if t.kind=1∧aX t.text=true then sW ex t.text r
  else .error 4:=rfl
section
variable {α β:Type} {p:Pr α} {l r:List Token} {x:α} {e:Int} {s:ByteArray}
theorem bI{f:α→Pr β}(h:p l=.ok (x,r)):aO p f l=f x r:=by unfold aO;rw[h]
theorem bM{f:α→Pr β}(h:p l=.error e):aO p f l=.error e:=by unfold aO;rw[h]
theorem dW{p q:Pr α}(h:eX s l=some r):iL s p q l=p r:=by unfold iL;rw[h]
theorem lg{p q:Pr α}(h:eX s l=none):iL s p q l=q l:=by unfold iL;rw[h]
theorem iH(h:eX s l=some r):dG s l=.ok ((),r):=by unfold dG;rw[h]
theorem jy(h:eX s l=none):dG s l=.error 4:=by unfold dG;rw[h]
theorem take_len(h:eX s l=some r):r.length+1=l.length:=by
 cases l with
 |nil=>cases h
 |cons t u=>
  rw[mJ]at h;split at h
  ·cases h;rfl
  ·cases h
def Short(p:Pr α):Prop:=∀l x r,p l=.ok (x,r)→r.length≤l.length
theorem gQ:Short (bJ x):=fun _ _ _ h=>by cases h;exact aJ _
theorem MF:Short (LW e:Pr α):=fun _ _ _ h=>by cases h
theorem mP:Short (dG s):=fun l x r h=>by
 unfold dG at h;cases ht:eX s l with
 |none=>rw[ht]at h;cases h
 |some u=>rw[ht]at h;cases h;have:=take_len ht;omega
theorem qH:Short fJ:=fun l x r h=>by
 cases l with
 |nil=>cases h
 |cons t u=>
  rw[kT]at h;split at h
  ·cases h;simp
  ·cases h
theorem fD{f:α→Pr β}(hp:Short p)(hf:∀x,Short (f x)):Short (aO p f):=fun l y r h=>by
 cases hq:p l with
 |error e=>rw[bM hq]at h;cases h
 |ok a=>
  obtain⟨x,u⟩:=a;rw[bI hq]at h;exact Nat.le_trans (hf _ _ _ _ h) (hp _ _ _ hq)
theorem nX{p q:Pr α}(hp:Short p)(hq:Short q):Short (iL s p q):=fun l y r h=>by
 cases ht:eX s l with
 |none=>rw[lg ht]at h;exact hq _ _ _ h
 |some u=>rw[dW ht]at h;have:=hp _ _ _ h;have:=take_len ht;omega
end
theorem Y7:Short uS:=fun l x r h=>by
 cases l with
 |nil=>cases h
 |cons t u=>
  rw[jW]at h;split at h
  ·cases h
  split at h
  ·cases h;simp
  split at h
  ·cases h;simp
  split at h
  ·cases h
  have:=nX (s:=RY) (fD qH fun n=>gQ (x:=Ty.mk 4 t.text n [])) (gQ (x:=Ty.mk 4 mt t.text [])) _ _ _ h;simp;omega
theorem yG:∀f,Short (iM f)
 |0=>MF
 |f+1=>nX (fD (yG f) fun _=>fD mP fun _=>gQ) Y7
section
variable {ex:Pr Ex} (hx:Short ex)
include hx
theorem MH:∀n x,Short (lT ex n x)
 |0,_=>gQ
 |n+1,_=>nX (fD hx fun _=>MH n _) gQ
theorem Qh:∀n x,Short (pR ex n x)
 |0,_=>gQ
 |n+1,_=>nX (fD hx fun _=>fD mP fun _=>Qh n _) gQ
theorem MG:∀n x,Short (lS ex n x)
 |0,_=>gQ
 |n+1,_=>nX (fD hx fun _=>MG n _) gQ
theorem short_list(s:ByteArray):Short (rV ex s):=fD hx fun _=>fD (fun _ _ _ h=>MG hx _ _ _ _ _ h) fun _=>fD mP fun _=>gQ
theorem MB(o s:ByteArray):Short (uP ex o s):=nX gQ (fD (short_list hx _) fun _=>gQ)
theorem Vx(s:ByteArray):Short (sW ex s):=nX (fD qH fun _=>fD mP fun _=>MB hx _ _) (nX (MB hx _ _) gQ)
theorem Y6:Short (AB ex):=fun l x r h=>by
 cases l with
 |nil=>cases h
 |cons t u=>
  rw[jd]at h;split at h
  ·cases h;simp
  split at h
  ·cases h;simp
  split at h
  ·have:=Vx hx _ _ _ _ h;simp;omega
  ·cases h
theorem MC:Short (yD ex):=nX (fD hx fun _=>fD mP fun _=>gQ) (nX (fD (short_list hx _) fun _=>gQ) (Y6 hx))
theorem uT:Short (lq ex):=fD (MC hx) fun _ _ _ _ h=>Qh hx _ _ _ _ _ h
end
theorem ji:∀f,Short (bV f)
 |0=>MF
 |f+1=>fD (uT (ji f)) fun _ _ _ _ h=>MH (uT (ji f)) _ _ _ _ _ h
def ig{α:Type}(p:Pr α):Prop:=∀l k,p l=.error k→k≠0
section
variable {α β:Type} {p q:Pr α} {s:ByteArray}
theorem iQ{x:α}:ig (bJ x):=fun _ _ h=>by cases h
theorem RJ{k:Int}(hk:k≠0):ig (LW k:Pr α):=fun _ _ h=>by cases h;exact hk
theorem nZ:ig (dG s):=fun l k h=>by
 unfold dG at h;cases ht:eX s l with
 |none=>rw[ht]at h;cases h;decide
 |some u=>rw[ht]at h;cases h
theorem yC:ig fJ:=fun l k h=>by
 cases l with
 |nil=>cases h;decide
 |cons t u=>
  rw[kT]at h;split at h
  ·cases h
  ·cases h;decide
theorem dR{f:α→Pr β}(hp:ig p)(hf:∀x,ig (f x)):ig (aO p f):=fun l k h=>by
 cases hq:p l with
 |error e=>rw[bM hq]at h;cases h;exact hp _ _ hq
 |ok a=>
  obtain⟨x,u⟩:=a;rw[bI hq]at h;exact hf _ _ _ h
theorem yZ(hp:ig p)(hq:ig q):ig (iL s p q):=fun l k h=>by
 cases ht:eX s l with
 |none=>rw[lg ht]at h;exact hq _ _ h
 |some u=>rw[dW ht]at h;exact hp _ _ h
end
theorem afK:ig uS:=fun l k h=>by
 cases l with
 |nil=>cases h;decide
 |cons t u=>
  rw[jW]at h;split at h
  ·cases h;decide
  split at h
  ·cases h
  split at h
  ·cases h
  split at h
  ·cases h;decide
  exact yZ (dR yC fun _=>iQ) iQ _ _ h
theorem JA:∀f,ig (iM f)
 |0=>RJ (by decide)
 |f+1=>yZ (dR (JA f) fun _=>dR nZ fun _=>iQ) afK
section
variable {ex:Pr Ex} (hx:ig ex)
include hx
theorem aad:∀n x,ig (lT ex n x)
 |0,_=>iQ
 |n+1,_=>yZ (dR hx fun _=>aad n _) iQ
theorem aeg:∀n x,ig (pR ex n x)
 |0,_=>iQ
 |n+1,_=>yZ (dR hx fun _=>dR nZ fun _=>aeg n _) iQ
theorem Z8:∀n x,ig (lS ex n x)
 |0,_=>iQ
 |n+1,_=>yZ (dR hx fun _=>Z8 n _) iQ
theorem Z7(s:ByteArray):ig (rV ex s):=dR hx fun _=>dR (fun _ _ h=>Z8 hx _ _ _ _ h) fun _=>dR nZ fun _=>iQ
theorem ZY(o s:ByteArray):ig (uP ex o s):=yZ iQ (dR (Z7 hx _) fun _=>iQ)
theorem aei(s:ByteArray):ig (sW ex s):=yZ (dR yC fun _=>dR nZ fun _=>ZY hx _ _) (yZ (ZY hx _ _) iQ)
theorem afI:ig (AB ex):=fun l k h=>by
 cases l with
 |nil=>cases h;decide
 |cons t u=>
  rw[jd]at h;split at h
  ·cases h
  split at h
  ·cases h
  split at h
  ·exact aei hx _ _ _ h
  ·cases h;decide
theorem afH:ig (yD ex):=yZ (dR hx fun _=>dR nZ fun _=>iQ) (yZ (dR (Z7 hx _) fun _=>iQ) (afI hx))
theorem aac:ig (lq ex):=dR (afH hx) fun _ _ _ h=>aeg hx _ _ _ _ h
end
theorem RI:∀f,ig (bV f)
 |0=>RJ (by decide)
 |f+1=>dR (aac (RI f)) fun _ _ _ h=>aad (aac (RI f)) _ _ _ _ h
theorem ait:ig IJ:=dR yC fun _=>dR nZ fun _=>dR (JA 40) fun _=>iQ
theorem aeh:ig nD:=dR yC fun _=>dR nZ fun _=>dR (JA 40) fun _=>iQ
theorem Z9:∀m ps,ig (jF m ps)
 |0,_=>RJ (by decide)
 |m+1,ps=>yZ iQ (dR (p:=if ps.length=0 then bJ ()else dG nS) (by split;exact iQ;exact nZ) fun _=>dR ait fun p=>Z9 m _)
theorem aiu:ig Vo:=yZ (dR yC fun _=>dR nZ fun _=>iQ) iQ
theorem ais:ig xw:=dR yC fun _=>dR aiu fun _=>dR nZ fun _=>dR (fun _ _ h=>Z9 _ _ _ _ h) fun _=>
 dR nZ fun _=>dR (JA 40) fun _=>dR nZ fun _=>dR (RI 40) fun _=>iQ
theorem YK{α:Type}{p:Pr α}(hp:ig p):ig (uQ p):=dR hp fun x l k h=>by
 cases l with
 |nil=>cases h
 |cons t u=>cases h;decide
theorem YL{α β:Type}{x:Except Int α}{f:α→β}{k:Int}(h:x.map f=.error k)(hx:∀k,x=.error k→k≠0):k≠0:=by
 cases x with
 |error e=>cases h;exact hx _ rfl
 |ok a=>cases h
theorem afJ{m:Module}{L:List Token}{k:Int}(h:Ap m L=.error k):k≠0:=by
 cases L with
 |nil=>cases h
 |cons t r=>
  change (if t.kind≠1 then .error 4
   else if iT t.text LC=true then(uQ fJ r).map fun x=> { m with uses:=m.uses++ [x.1] }
   else if iT t.text Dv=true then(uQ nD r).map fun x=> { m with types:=m.types++ [x.1] }
   else if iT t.text Du=true then(uQ xw r).map fun x=> { m with funcs:=m.funcs++ [x.1] }
   else .error 4)=Except.error k at h
  split at h
  ·cases h;decide
  split at h
  ·exact YL h (fun k=>YK yC _ k)
  split at h
  ·exact YL h (fun k=>YK aeh _ k)
  split at h
  ·exact YL h (fun k=>YK ais _ k)
  ·cases h;decide
section
variable {ex:Pr Ex} {n:Nat} {x y:Ex} {xs:List Ex} {l r r2 r3:List Token} {e:Int}
theorem uX{s:ByteArray}(h:eX s l=some r)(hn:l.length≤n):∃m,n=m+1:=⟨n-1,by have:=take_len h;omega⟩
theorem PW(h:eX nS l=none):lS ex n xs l=.ok (xs,l):=by
 cases n with
 |zero=>rfl
 |succ n=>show iL _ _ _ _=_;rw[lg h];rfl
theorem aeb(h:eX nS l=some r)(hn:l.length≤n)(hx:ex r=.error e):lS ex n xs l=.error e:=by
 obtain⟨n,rfl⟩:=uX h hn
 show iL _ _ _ _=_;rw[dW h,bM hx]
theorem afG(h:eX nS l=some r)(hn:l.length≤n)(hx:ex r=.ok (y,r2)):lS ex n xs l=lS ex (n-1) (xs++ [y]) r2:=by
 obtain⟨n,rfl⟩:=uX h hn
 show iL _ _ _ _=_;rw[dW h,bI hx];rfl
theorem Qo(h:eX IQ l=none):lT ex n x l=.ok (x,l):=by
 cases n with
 |zero=>rfl
 |succ n=>show iL _ _ _ _=_;rw[lg h];rfl
theorem aew(h:eX IQ l=some r)(hn:l.length≤n)(hx:ex r=.error e):lT ex n x l=.error e:=by
 obtain⟨n,rfl⟩:=uX h hn
 show iL _ _ _ _=_;rw[dW h,bM hx]
theorem afW(h:eX IQ l=some r)(hn:l.length≤n)(hx:ex r=.ok (y,r2)):lT ex n x l=lT ex (n-1) (sumOf x y) r2:=by
 obtain⟨n,rfl⟩:=uX h hn
 show iL _ _ _ _=_;rw[dW h,bI hx];rfl
theorem TY(h:eX Vt l=none):pR ex n x l=.ok (x,l):=by
 cases n with
 |zero=>rfl
 |succ n=>show iL _ _ _ _=_;rw[lg h];rfl
theorem afa(h:eX Vt l=some r)(hn:l.length≤n)(hx:ex r=.error e):pR ex n x l=.error e:=by
 obtain⟨n,rfl⟩:=uX h hn
 show iL _ _ _ _=_;rw[dW h,bM hx]
theorem ahB(h:eX Vt l=some r)(hn:l.length≤n)(hx:ex r=.ok (y,r2))(h2:eX Xz r2=none):pR ex n x l=.error 4:=by
 obtain⟨n,rfl⟩:=uX h hn
 show iL _ _ _ _=_;rw[dW h,bI hx,bM (jy h2)]
theorem ahC(h:eX Vt l=some r)(hn:l.length≤n)(hx:ex r=.ok (y,r2))(h2:eX Xz r2=some r3):pR ex n x l=pR ex (n-1) (QF x y) r3:=by
 obtain⟨n,rfl⟩:=uX h hn
 show iL _ _ _ _=_;rw[dW h,bI hx,bI (iH h2)];rfl
end
theorem P5{m:Nat}{ps:List Field}{l r:List Token}(h:eX Qe l=some r):jF (m+1) ps l=.ok (ps,r):=by
 show iL _ _ _ _=_;rw[dW h];rfl
theorem aaf{m:Nat}{ps:List Field}{l:List Token}(h:eX Qe l=none):jF (m+1) ps l=aO (if ps.length=0 then bJ ()else dG nS) (fun _=>aO IJ fun p=>jF m (ps++ [p])) l:=by
 show iL _ _ _ _=_;rw[lg h]
theorem jV{α β γ:Type}(p:Pr α)(f:α→Pr β)(g:β→Pr γ):aO (aO p f) g=aO p fun x=>aO (f x) g:=by
 funext l
 unfold aO;cases p l with
 |error e=>rfl
 |ok a=>rfl
theorem aem{α:Type}(K:Field→Pr α):aO IJ K=aO fJ fun n=>aO (dG rX) fun _=>aO (iM 40) fun t=>K ⟨n,t⟩:=by
 unfold IJ;rw[jV]
 congr 1
 funext n
 rw[jV]
 congr 1
 funext _
 rw[jV]
 rfl
def rW(n v:ByteArray)(ps:List Field):Pr Func:=aO (dG rX) fun _=>aO (iM 40) fun t=>aO (dG sEq) fun _=>aO (bV 40) fun x=>bJ ⟨n,v,ps,t,x⟩
def qF(n v:ByteArray):Pr Func:=aO (dG Y4) fun _=>aO (fun l=>jF (l.length+1) [] l) (rW n v)
theorem LX:xw=aO fJ fun n=>aO Vo (qF n):=rfl
end Go.Proofs.YtjaladhdnbhliaaGreatDoor
