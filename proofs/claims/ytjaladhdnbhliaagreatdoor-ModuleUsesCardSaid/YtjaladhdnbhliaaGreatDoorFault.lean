/- What must be, else a fault is thrown: tree.need, tree.caught. -/
import Derived.Test.YtjaladhdnbhliaaGreatDoorBase
import Derived.Test.YtjaladhdnbhliaaGreatDoorRows
import Derived.Defers
import Derived.Recover
import Derived.WalkSmall
import Derived.Handy
namespace Go.Proofs.YtjaladhdnbhliaaGreatDoor
open Go.RowKit Go.Shelf

/-- A fault that is thrown. -/
def faultV (e : Int) : PanicEntry := { v := .iface 176 (.agg #[.int .i64 e]), recovered := false }
/-- How a check ends: nothing is wrong, or a fault is thrown. -/
def faultEnd (e : Int) : Ending := if e = 0 then .returned (.tuple #[]) else .panicked [faultV e]
theorem faultEnd_no {e : Int} (h : e ≠ 0) : faultEnd e = .panicked [faultV e] := by unfold faultEnd; rw [if_neg h]
theorem faultEnd_ok : faultEnd 0 = .returned (.tuple #[]) := rfl

theorem need_yes (e : Int) (w : World) : Calls Tryz.prog 71 #[.bool true, .int .i64 e] w fun en w' => en = .returned (.tuple #[]) ∧ w = w' := by
  go_enter Tryz.func71, Tryz.ntmps71
  go_wp2
  go_end0
  exact ⟨rfl, rfl⟩
theorem need_no (e : Int) (w : World) : Calls Tryz.prog 71 #[.bool false, .int .i64 e] w fun en w' => en = .panicked [faultV e] ∧ w = w' := by
  go_enter Tryz.func71, Tryz.ntmps71
  go_wp2
  exact ⟨rfl, rfl, rfl⟩

set_option maxHeartbeats 1000000 in
theorem caught_panicking (p : Addr) (x e : Int) (w : World) (hc : w.cell? p = some (.int .i64 x)) (hz : w.frozen? p = false) :
    CallsD Tryz.prog 70 #[.pointer (some p)] (.panicking [faultV e]) w fun en u' w' =>
      en = .returned (.tuple #[]) ∧ u' = .panicking [{ v := .iface 176 (.agg #[.int .i64 e]), recovered := true }] ∧ w' = (w.alloc (.cells #[.int .i64 e] 176)).setCell p (.int .i64 e) := by
  unfold faultV
  have hlt := World.block_lt_of_cell? w _ hc
  have hta : ∀ u : World, (Instr.typeAssert (.iface 176 (.agg #[.int .i64 e])) 20 176 true).run Tryz.prog u = .ok (.tuple #[.agg #[.int .i64 e], .bool true]) u := fun _ => by kernel_rfl
  refine callsD_of_wpS Tryz.func70 rfl fun c₀ cs hu => ?_
  apply wpS_seq
  apply wpS_region
  simp [wpOpsS, go_sem, recoverD, hu, Tryz.ntmps70, Exit.thenS]
  apply wpS_seq
  apply wpS_seq
  apply wpS_region
  simp [wpOpsS, go_sem, Exit.thenS]
  refine wpS_cond (t := false) (by simp [Act.eval, Array.replicate]) ?_
  simp only [Bool.false_eq_true, if_false]
  refine wpS_of_wp (wp_skip ?_)
  simp only [Exit.thenS]
  apply wpS_seq
  apply wpS_region
  simp [wpOpsS, go_sem, Exit.thenS, hta, Oper.upon]
  apply wpS_seq
  apply wpS_seq
  apply wpS_region
  simp [wpOpsS, go_sem, Exit.thenS]
  refine wpS_cond (t := false) (by simp [Act.eval, Array.replicate]) ?_
  simp only [Bool.false_eq_true, if_false]
  refine wpS_of_wp (wp_skip ?_)
  simp only [Exit.thenS]
  apply wpS_region
  have hc2 : ∀ o : Obj, (w.alloc o).cell? p = some (.int .i64 x) := fun o => by rw [World.cell?_alloc_lt _ _ _ hlt]; exact hc
  have hz2 : ∀ o : Obj, (w.alloc o).frozen? p = false := fun o => by rw [World.frozen?_alloc_old _ _ _ (by omega)]; exact hz
  simp [wpOpsS, go_sem, hc2, hz2, bodyPostS, results, Tryz.results70]
set_option maxHeartbeats 1000000 in
theorem caught_idle (p : Addr) (w : World) :
    CallsD Tryz.prog 70 #[.pointer (some p)] .returning w fun en u' w' => en = .returned (.tuple #[]) ∧ u' = .returning ∧ w' = w := by
  refine callsD_of_wpS Tryz.func70 rfl fun c₀ cs hu => ?_
  apply wpS_seq
  apply wpS_region
  simp [wpOpsS, go_sem, recoverD, hu, Tryz.ntmps70, Exit.thenS]
  apply wpS_seq
  apply wpS_seq
  apply wpS_region
  simp [wpOpsS, go_sem, Exit.thenS]
  refine wpS_cond (t := true) (by simp [Act.eval, Array.replicate]) ?_
  simp only [if_true]
  refine wpS_of_wp (wp_ret ?_)
  cases c₀
  simp_all [bodyPostS, results, Tryz.results70, Exit.thenS]

end Go.Proofs.YtjaladhdnbhliaaGreatDoor
