/- What is wrong with functions: the reference's funcFault. -/
import Derived.Test.YtafhepilcmimlaaDoorTreeErr2
namespace Go.Proofs.YtafhepilcmimlaaDoor
open Go.RowKit Go.Shelf

theorem TyR.four {w : World} {F : Foot} {cs : List Value} {t : Ty} (h : TyR w F cs t) : ∃ a b c d, cs = [a, b, c, d] := by
  obtain ⟨n, h⟩ := h
  cases n with
  | zero => exact h.elim
  | succ n => obtain ⟨av, rfl, _⟩ := h; exact ⟨_, _, _, _, rfl⟩
theorem ExR.five {w : World} {F : Foot} {cs : List Value} {t : Ex} (h : ExR w F cs t) : ∃ a b c d e, cs = [a, b, c, d, e] := by
  obtain ⟨n, h⟩ := h
  cases n with
  | zero => exact h.elim
  | succ n => obtain ⟨av, rfl, _⟩ := h; exact ⟨_, _, _, _, _, rfl⟩
theorem FieldR.form {w : World} {F : Foot} {cs : List Value} {x : Field} (h : FieldR w F cs x) : ∃ a b c d, cs = [.string x.name, a, b, c, d] ∧ okS x.name ∧ TyR w F [a, b, c, d] x.is_ := by
  obtain ⟨tc, rfl, h1, h2⟩ := h
  obtain ⟨a, b, c, d, rfl⟩ := h2.four
  exact ⟨_, _, _, _, rfl, h1, h2⟩
theorem FuncR.form {w : World} {F : Foot} {cs : List Value} {x : Func} (h : FuncR w F cs x) : ∃ P1 p1 a b c d e f g i j, cs = [.string x.name, .string x.var_, .slice P1 x.params.length p1, a, b, c, d, e, f, g, i, j] ∧ okS x.name ∧ okS x.var_ ∧
    SliceOf FieldR 5 80 w F (.slice P1 x.params.length p1) x.params ∧ TyR w F [a, b, c, d] x.result ∧ ExR w F [e, f, g, i, j] x.body := by
  obtain ⟨pv, tc, bc, rfl, h1, h2, h3, h4, h5⟩ := h
  obtain ⟨a, b, c, d, rfl⟩ := h4.four
  obtain ⟨e, f, g, i, j, rfl⟩ := h5.five
  obtain ⟨P1, p1, rfl, _⟩ := h3.form
  exact ⟨_, _, _, _, _, _, _, _, _, _, _, rfl, h1, h2, h3, h4, h5⟩
theorem ModuleR.form {w : World} {F : Foot} {cs : List Value} {x : Module} (h : ModuleR w F cs x) : ∃ U1 u1 T1 e1 T2 e2, cs = [.slice U1 x.uses.length u1, .slice T1 x.types.length e1, .slice T2 x.funcs.length e2] ∧
    SliceOf StrR 1 16 w F (.slice U1 x.uses.length u1) x.uses ∧ SliceOf FieldR 5 80 w F (.slice T1 x.types.length e1) x.types ∧ SliceOf FuncR 12 192 w F (.slice T2 x.funcs.length e2) x.funcs := by
  obtain ⟨uv, tv, fv, rfl, h1, h2, h3⟩ := h
  obtain ⟨U1, u1, rfl, _⟩ := h1.form
  obtain ⟨T1, e1, rfl, _⟩ := h2.form
  obtain ⟨T2, e2, rfl, _⟩ := h3.form
  exact ⟨_, _, _, _, _, _, rfl, h1, h2, h3⟩

theorem fun_q {x : Func} {z1 z2 : Bool} (h1 : nameOk x.name = z1) (h2 : nameOk x.var_ = z2) : (!z1 || (!x.var_.toList.isEmpty && !z2)) = decide (nameOk x.name = false ∨ (x.var_.size ≠ 0 ∧ nameOk x.var_ = false)) := by
  subst h1; subst h2
  rw [str_isEmpty]
  by_cases h : x.var_.size = 0 <;> cases nameOk x.name <;> cases nameOk x.var_ <;> simp [h]
theorem fieldErr_name {x : Field} (h : nameOk x.name = false) : fieldErr x = 4 := by unfold fieldErr; rw [h]; rfl
theorem fieldErr_type {x : Field} {z : Int} (h : nameOk x.name = true) (h2 : tyErr 10 x.is_ = z) : fieldErr x = z := by unfold fieldErr; rw [h, if_pos rfl, h2]
theorem funErr_name {x : Func} (h : nameOk x.name = false ∨ (x.var_.size ≠ 0 ∧ nameOk x.var_ = false)) : funErr x = 4 := by unfold funErr; rw [if_pos h]
theorem funErr_many {x : Func} (h : ¬ (nameOk x.name = false ∨ (x.var_.size ≠ 0 ∧ nameOk x.var_ = false))) (h2 : 8 < x.params.length) : funErr x = 1 := by unfold funErr; rw [if_neg h, if_pos h2]
theorem funErr_param {x : Func} {z : Int} (h : ¬ (nameOk x.name = false ∨ (x.var_.size ≠ 0 ∧ nameOk x.var_ = false))) (h2 : ¬ 8 < x.params.length) (h3 : eachErr fieldErr x.params = z) (h4 : z ≠ 0) : funErr x = z := by
  subst h3
  unfold funErr; rw [if_neg h, if_neg h2, if_pos h4]
theorem funErr_result {x : Func} {z : Int} (h : ¬ (nameOk x.name = false ∨ (x.var_.size ≠ 0 ∧ nameOk x.var_ = false))) (h2 : ¬ 8 < x.params.length) (h3 : eachErr fieldErr x.params = 0) (h4 : tyErr 10 x.result = z) (h5 : z ≠ 0) : funErr x = z := by
  subst h4
  unfold funErr; rw [if_neg h, if_neg h2, if_neg (by rw [h3]; decide), if_pos h5]
theorem funErr_body {x : Func} {z : Int} (h : ¬ (nameOk x.name = false ∨ (x.var_.size ≠ 0 ∧ nameOk x.var_ = false))) (h2 : ¬ 8 < x.params.length) (h3 : eachErr fieldErr x.params = 0) (h4 : tyErr 10 x.result = 0) (h5 : exErr 10 x.body = z) : funErr x = z := by
  subst h5
  unfold funErr; rw [if_neg h, if_neg h2, if_neg (by rw [h3]; decide), if_neg (by rw [h4]; decide)]

end Go.Proofs.YtafhepilcmimlaaDoor
