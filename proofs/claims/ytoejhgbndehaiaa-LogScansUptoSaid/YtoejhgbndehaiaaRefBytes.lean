/- Bytes of things: the reference's sized, one, faceBytes. -/
import Derived.Test.YtoejhgbndehaiaaRecEnc
import Derived.Test.YtoejhgbndehaiaaBase
import Derived.Test.YtoejhgbndehaiaaRows
import Derived.Laws.IdiomStrings
import Derived.Deep.RegionHeld3
import Derived.Deep.QuietTactic
import Derived.BigQuiet
import Derived.WalkSmall
import Derived.Deep.DeepCutAuto
import Derived.Deep.Light
namespace Go.Proofs.Ytoejhgbndehaiaa
open Go.RowKit Go.Shelf

theorem byte_nat (k : Nat) : (k : Int) % 256 = ((UInt8.ofNat k).toNat : Int) := by simp
theorem byte_hi (k : Nat) : (k : Int) / 256 % 256 = ((UInt8.ofNat (k / 256)).toNat : Int) := by
  rw [show ((k : Int) / 256) = ((k / 256 : Nat) : Int) by simp]
  exact byte_nat _

end Go.Proofs.Ytoejhgbndehaiaa
