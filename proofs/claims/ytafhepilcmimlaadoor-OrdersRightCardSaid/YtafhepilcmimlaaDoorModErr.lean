/- What is wrong with a module: the reference's ModuleFault. -/
import Derived.Test.YtafhepilcmimlaaDoorTreeErr3
namespace Go.Proofs.YtafhepilcmimlaaDoor
open Go.RowKit Go.Shelf

theorem modErr_uses {m : Module} {z : Int} (h : ¬ 24 < m.uses.length + m.types.length + m.funcs.length) (h2 : eachErr useErr m.uses = z) (h3 : z ≠ 0) : modErr m = z := by
  subst h2
  unfold modErr; rw [if_neg h, if_pos h3]
theorem modErr_types {m : Module} {z : Int} (h : ¬ 24 < m.uses.length + m.types.length + m.funcs.length) (h2 : eachErr useErr m.uses = 0) (h3 : eachErr fieldErr m.types = z) (h4 : z ≠ 0) : modErr m = z := by
  subst h3
  unfold modErr; rw [if_neg h, if_neg (by rw [h2]; decide), if_pos h4]
theorem modErr_funcs {m : Module} {z : Int} (h : ¬ 24 < m.uses.length + m.types.length + m.funcs.length) (h2 : eachErr useErr m.uses = 0) (h3 : eachErr fieldErr m.types = 0) (h4 : eachErr funErr m.funcs = z) : modErr m = z := by
  subst h4
  unfold modErr; rw [if_neg h, if_neg (by rw [h2]; decide), if_neg (by rw [h3]; decide)]
theorem useErr_no {s : ByteArray} (h : nameOk s = false) : useErr s = 4 := by unfold useErr; rw [h]; rfl
theorem useErr_ok {s : ByteArray} (h : nameOk s = true) : useErr s = 0 := by unfold useErr; rw [h, if_pos rfl]

end Go.Proofs.YtafhepilcmimlaaDoor
