/- A number from 0 to many - 1: the laws' own picked. -/
import Derived.Test.YtafhepilcmimlaaGreatDoorFunc
import Derived.Handy
namespace Go.Proofs.YtafhepilcmimlaaGreatDoor
open Go.RowKit

/-- A number from 0 to many - 1. -/
def pickN (n : Int) (many : Nat) : Nat := (if n < 0 then -(n + 1) else n).toNat % many
theorem pickN_lt (n : Int) {many : Nat} (h : 0 < many) : pickN n many < many := Nat.mod_lt _ h
set_option maxHeartbeats 400000 in
theorem picked_any (n : Int) (many : Nat) (hm : 0 < many) (hn : I64 n) (w : World) : Calls Tryz.prog 11 #[.int .i64 n, .int .i64 many] w fun e w' => e = .returned (.int .i64 (pickN n many)) ∧ w = w' := by
  obtain ⟨h1, h2⟩ := hn
  have hmz : ((many : Int) == 0) = false := by simp; omega
  by_cases h : n < 0
  · have hr : (-(n + 1)).tmod (many : Int) = (pickN n many : Int) := by
      rw [Int.tmod_eq_emod_of_nonneg (by omega)]
      unfold pickN
      rw [if_pos h, Int.natCast_emod, Int.toNat_of_nonneg (by omega)]
    have e1 : wrap64 (n + 1) = n + 1 := IntWalk.wrap64_in _ (by omega)
    have e2 : wrap64 (-(n + 1)) = -(n + 1) := IntWalk.wrap64_in _ (by omega)
    rw [Int.neg_tmod] at hr
    have HR := Lib.hid hr
    clear hr
    go_enter Tryz.func11, Tryz.ntmps11
    go_wp2_with fail
    go_ret
    exact ⟨ret_int HR.out, rfl⟩
  · have hr : n.tmod (many : Int) = (pickN n many : Int) := by
      rw [Int.tmod_eq_emod_of_nonneg (by omega)]
      unfold pickN
      rw [if_neg h, Int.natCast_emod, Int.toNat_of_nonneg (by omega)]
    have HR := Lib.hid hr
    clear hr
    go_enter Tryz.func11, Tryz.ntmps11
    go_wp2_with fail
    go_ret
    exact ⟨by first | exact ret_int HR.out | exact ret_int (by rw [← HR.out, Int.tmod_eq_emod_of_nonneg (by omega)]), rfl⟩


end Go.Proofs.YtafhepilcmimlaaGreatDoor
