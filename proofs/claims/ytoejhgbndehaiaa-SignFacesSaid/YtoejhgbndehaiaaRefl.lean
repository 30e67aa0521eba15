/- Each thing is the same as itself. -/
import Derived.Test.YtoejhgbndehaiaaFaceRef
import Derived.Test.YtoejhgbndehaiaaRecEq
import Derived.Test.YtoejhgbndehaiaaSame
namespace Go.Proofs.Ytoejhgbndehaiaa

theorem eqB_self (a : ByteArray) : eqB a a = true := by simp [eqB]
theorem knownEq_self (a : Known) : knownEq a a = true := by simp [knownEq, eqB_self]
theorem sigEq_self (a : Sig) : sigEq a a = true := by simp [sigEq, eqB_self, listEq_refl eqB_self]
theorem faceEq_self (a : Face) : faceEq a a = true := by simp [faceEq, listEq_refl knownEq_self, listEq_refl sigEq_self]
theorem importEq_self (a : Import) : importEq a a = true := by simp [importEq, eqB_self, faceEq_self]
theorem diagEq_self (a : Diag) : diagEq a a = true := by simp [diagEq, eqB_self]

end Go.Proofs.Ytoejhgbndehaiaa
