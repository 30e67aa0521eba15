/- What is wrong with expressions, functions, modules: the reference's exprFault, funcFault, ModuleFault. -/
import Derived.Test.YtafhepilcmimlaaDoorTreeErr
import Derived.Deep.Light
import Derived.Deep.DeepCutAuto
import Derived.Deep.CutBlock
namespace Go.Proofs.YtafhepilcmimlaaDoor
open Go.RowKit Go.Shelf

/-- An expression's own fault, its arguments left aside. -/
def exOwn5 (k n : Int) (o s : ByteArray) (m : Nat) : Int :=
  if k < 1 ∨ 7 < k then 3
  else if 8 < m then 1
  else if (k ≠ 1 ∧ n ≠ 0) ∨ (k ≠ 4 ∧ o.size ≠ 0) then 4
  else if exOk k o s m = false then 4
  else if k = 1 ∧ (n < 0 ∨ 999999 < n) then 2 else 0
def exOwn (x : Ex) : Int := exOwn5 x.kind x.n x.of_ x.s x.args.length
theorem exErr_step (f : Nat) (x : Ex) : exErr (f + 1) x = if exOwn x = 0 then eachErr (exErr f) x.args else exOwn x := by
  obtain ⟨k, n, o, s, args⟩ := x
  show exErr (f + 1) (.mk k n o s args) = if exOwn5 k n o s args.length = 0 then eachErr (exErr f) args else exOwn5 k n o s args.length
  conv => lhs; unfold exErr
  unfold exOwn5
  by_cases h1 : k < 1 ∨ 7 < k
  · simp only [if_pos h1]; rfl
  · simp only [if_neg h1]
    by_cases h2 : 8 < args.length
    · simp only [if_pos h2]; rfl
    · simp only [if_neg h2]
      by_cases h3 : (k ≠ 1 ∧ n ≠ 0) ∨ (k ≠ 4 ∧ o.size ≠ 0)
      · simp only [if_pos h3]; rfl
      · simp only [if_neg h3]
        by_cases h4 : exOk k o s args.length = false
        · simp only [if_pos h4]; rfl
        · simp only [if_neg h4]
          by_cases h5 : k = 1 ∧ (n < 0 ∨ 999999 < n)
          · simp only [if_pos h5]; rfl
          · simp only [if_neg h5]; rfl
theorem toList_nil {s : ByteArray} : s.toList = [] ↔ s.size = 0 := by
  rw [ByteArray.toList_eq, ← List.length_eq_zero_iff]; rfl
theorem exErr_own {f : Nat} {x : Ex} {e : Int} (h : exOwn x = e) (h0 : e ≠ 0) : exErr (f + 1) x = e := by
  rw [exErr_step, if_neg (by rw [h]; exact h0), h]
theorem exErr_args {f : Nat} {x : Ex} (h : exOwn x = 0) : exErr (f + 1) x = eachErr (exErr f) x.args := by
  rw [exErr_step, if_pos h]

end Go.Proofs.YtafhepilcmimlaaDoor
