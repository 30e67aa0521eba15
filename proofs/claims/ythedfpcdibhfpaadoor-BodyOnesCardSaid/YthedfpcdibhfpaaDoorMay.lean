/- A module, and imports, that may be. -/
import Derived.Test.YthedfpcdibhfpaaDoorModErr
import Derived.Test.YthedfpcdibhfpaaDoorImpErr
import Derived.Test.YthedfpcdibhfpaaDoorBase
import Derived.Handy
namespace Go.Proofs.YthedfpcdibhfpaaDoor
open Go.RowKit Go.Shelf

def mayB (m : Module) (l : List Import) : Bool := decide (modErr m = 0) && decide (importsErr l = 0)

theorem may_both {m : Module} {l : List Import} (h : mayB m l = true) : modErr m = 0 ∧ importsErr l = 0 := by
  unfold mayB at h
  simpa using h
theorem modErr_small {m : Module} (h : modErr m = 0) : m.uses.length + m.types.length + m.funcs.length ≤ 24 := by
  unfold modErr at h
  by_cases h24 : 24 < m.uses.length + m.types.length + m.funcs.length
  · rw [if_pos h24] at h; cases h
  · omega

set_option maxRecDepth 100000 in
set_option maxHeartbeats 1000000 in
theorem may_any (m : Module) (l : List Import) (cs : List Value) (v : Value) (F G : Foot) (w : World) (hF : ∀ k, F k → k < w.heap.size) (hG : ∀ k, G k → k < w.heap.size)
    (hm : ModuleR w F cs m) (hl : SliceOf ImportR 4 72 w G v l) :
    Calls Tryd.prog 10 #[.agg cs.toArray, v] w fun e w' => e = .returned (.bool (mayB m l)) ∧ Below w.heap.size w w' := by
  have hc := fun U (hU : Below w.heap.size w U) => moduleFault_any m cs F U (foot_up hF hU) (ModuleR.stays.later hm hU hF)
  have hd := fun U (hU : Below w.heap.size w U) => importsFault_any v l G U (foot_up hG hU) (hl.up ImportR.stays hG hU)
  obtain ⟨U1, u1, T1, e1, T2, e2, rfl, _⟩ := ModuleR.form hm
  obtain ⟨L1, l1, rfl, _⟩ := hl.form
  unfold mayB
  generalize modErr m = z1 at hc ⊢
  generalize importsErr l = z2 at hd ⊢
  have HC := Lib.hid hc; have HD := Lib.hid hd
  clear hc hd hm hl
  go_enter Tryd.func10, Tryd.ntmps10
  go_wp2_with fail
  refine (HC.out _ (by go_grown)).mono ?_
  rintro e w1 ⟨rfl, hb1⟩
  have hb2 : Below w.heap.size w w1 := Below.trans (by go_grown) (hb1.mono (by simp))
  have HB := Lib.hid hb2
  clear hb1 hb2
  by_cases h1 : z1 = 0
  · subst h1
    go_wp2_with fail
    refine (HD.out _ HB.out).mono ?_
    rintro e w2 ⟨rfl, hb3⟩
    go_wp2_with fail
    go_ret
    exact ⟨ret_bool (by rw [Bool.eq_iff_iff]; simp), HB.out.trans (hb3.mono HB.out.size)⟩
  · have h1b : (z1 == 0) = false := by simp [h1]
    go_wp2_with fail
    go_ret
    exact ⟨ret_bool (by rw [Bool.eq_iff_iff]; simp [h1]), HB.out⟩

end Go.Proofs.YthedfpcdibhfpaaDoor
