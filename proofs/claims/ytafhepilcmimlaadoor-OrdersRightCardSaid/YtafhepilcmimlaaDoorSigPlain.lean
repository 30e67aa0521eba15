/- What a function of a module takes, and tells; or what is wrong. Plain facts. -/
import Derived.Test.YtafhepilcmimlaaDoorSolvePlain
import Derived.Test.YtafhepilcmimlaaDoorFaceFunc
namespace Go.Proofs.YtafhepilcmimlaaDoor
open Go.RowKit

/-- A type's text, or what is wrong. -/
def solveOf (m : Module) (l : List Import) (v : ByteArray) (t : Ty) : ByteArray × Int := solveN m l 300 v [] t
def fnIs (t : ByteArray) (x : Func) : Bool := eqB x.name t
/-- What is wrong with a parameter; 0: nothing. -/
def parErr (m : Module) (l : List Import) (f : Func) (k : Nat) : Int := match f.params[k]? with
  | some p => if (f.params.take k).any (fieldIs p.name) = true then 4 else (solveOf m l f.var_ p.is_).2
  | none => 0
def parTxt (m : Module) (l : List Import) (f : Func) (p : Field) : ByteArray := (solveOf m l f.var_ p.is_).1
def sigOne (m : Module) (l : List Import) (k : Nat) : Sig × Int := match m.funcs[k]? with
  | some f =>
    if (m.funcs.take k).any (fnIs f.name) = true then (noSig, 4)
    else if firstErr (parErr m l f) f.params.length ≠ 0 then (noSig, firstErr (parErr m l f) f.params.length)
    else if (solveOf m l f.var_ f.result).2 ≠ 0 then (noSig, (solveOf m l f.var_ f.result).2)
    else (⟨f.name, f.params.map (parTxt m l f), (solveOf m l f.var_ f.result).1⟩, 0)
  | none => (noSig, 0)

section
variable {m : Module} {l : List Import} {k j : Nat} {f : Func} {p : Field} {z : Int}
theorem sig_seen (hf : m.funcs[k]? = some f) (h : (m.funcs.take k).any (fnIs f.name) = true) : sigOne m l k = (noSig, 4) := by
  unfold sigOne; rw [hf]; simp only; rw [if_pos h]
theorem sig_par (hf : m.funcs[k]? = some f) (h : (m.funcs.take k).any (fnIs f.name) = false) (hj : j < f.params.length) (h0 : ∀ i, i < j → parErr m l f i = 0) (hz : parErr m l f j = z) (hz0 : z ≠ 0) : sigOne m l k = (noSig, z) := by
  unfold sigOne; rw [hf]; simp only
  rw [if_neg (by simp [h]), firstErr_hit hj h0 (by rw [hz]; exact hz0), hz, if_pos hz0]
theorem sig_res (hf : m.funcs[k]? = some f) (h : (m.funcs.take k).any (fnIs f.name) = false) (h0 : ∀ i, i < f.params.length → parErr m l f i = 0) (hz : (solveOf m l f.var_ f.result).2 = z) (hz0 : z ≠ 0) : sigOne m l k = (noSig, z) := by
  unfold sigOne; rw [hf]; simp only
  rw [if_neg (by simp [h]), firstErr_none h0, if_neg (by simp), hz, if_pos hz0]
theorem sig_fine (hf : m.funcs[k]? = some f) (h : (m.funcs.take k).any (fnIs f.name) = false) (h0 : ∀ i, i < f.params.length → parErr m l f i = 0) (hz : (solveOf m l f.var_ f.result).2 = 0) : sigOne m l k = (⟨f.name, f.params.map (parTxt m l f), (solveOf m l f.var_ f.result).1⟩, 0) := by
  unfold sigOne; rw [hf]; simp only
  rw [if_neg (by simp [h]), firstErr_none h0, if_neg (by simp), if_neg (by simp [hz])]
theorem par_seen (hp : f.params[j]? = some p) (h : (f.params.take j).any (fieldIs p.name) = true) : parErr m l f j = 4 := by
  unfold parErr; rw [hp]; simp only; rw [if_pos h]
theorem par_solve (hp : f.params[j]? = some p) (h : (f.params.take j).any (fieldIs p.name) = false) : parErr m l f j = (solveOf m l f.var_ p.is_).2 := by
  unfold parErr; rw [hp]; simp only; rw [if_neg (by simp [h])]
theorem seen_all {α : Type} {f : Nat → α} {x : α} (h : ∀ i, i < j → f i = x) (hj : f j = x) : ∀ i, i < j + 1 → f i = x := by
  intro i hi
  by_cases e : i = j
  · rw [e]; exact hj
  · exact h i (by omega)
end

end Go.Proofs.YtafhepilcmimlaaDoor
