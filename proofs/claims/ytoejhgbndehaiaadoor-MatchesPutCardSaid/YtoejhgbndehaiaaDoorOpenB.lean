/- Has a kind a variable: kind.Open. -/
import Derived.Test.YtoejhgbndehaiaaDoorFaceErr
import Derived.Test.YtoejhgbndehaiaaDoorShelf
namespace Go.Proofs.YtoejhgbndehaiaaDoor
open Go.RowKit

theorem indexByte_star : ∀ l : List UInt8, decide (0 ≤ Lib.indexByte l 42) = l.any starByte
  | [] => rfl
  | b :: l => by
    have ih := indexByte_star l
    have hge := Lib.indexByte_ge l 42
    unfold Lib.indexByte
    rw [List.any_cons, ← ih]
    by_cases hb : b = 42
    · subst hb; simp [starByte]
    · have h1 : (b == 42) = false := by simp [hb]
      have h2 : starByte b = false := by
        unfold starByte
        rw [decide_eq_false_iff_not]
        intro e
        exact hb (UInt8.toNat_inj.1 e)
      rw [h1, h2]
      by_cases he : Lib.indexByte l 42 = -1
      · simp [he]
      · have h3 : (Lib.indexByte l 42 == -1) = false := by simp [he]
        rw [if_neg (by simp), h3, if_neg (by simp), Bool.false_or, decide_eq_decide]
        omega

set_option maxHeartbeats 400000 in
theorem kindOpen_any (s : ByteArray) (w : World) : Calls Tryd.prog 14 #[.string s] w fun e w' => e = .returned (.bool (openB s)) ∧ w = w' := by
  have hc := fun W => Tryd.strings_Contains_one s 42 W
  rw [indexByte_star] at hc
  unfold openB
  generalize s.data.toList.any starByte = z at hc ⊢
  have HC := Lib.hid hc
  clear hc
  go_enter Tryd.func14, Tryd.ntmps14
  go_wp2_with fail
  refine (HC.out _).mono ?_
  rintro e w' ⟨rfl, rfl⟩
  go_wp2_with fail
  go_ret
  exact ⟨rfl, rfl⟩

end Go.Proofs.YtoejhgbndehaiaaDoor
