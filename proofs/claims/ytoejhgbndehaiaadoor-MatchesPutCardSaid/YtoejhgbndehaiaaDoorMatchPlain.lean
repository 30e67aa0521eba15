/- What a pattern is matched with is what comes of it when that is put in: plain facts, at the kinds that raw things make. -/
import Derived.Test.YtoejhgbndehaiaaDoorAll
import Derived.Test.YtoejhgbndehaiaaDoorKindForm
namespace Go.Proofs.YtoejhgbndehaiaaDoor
open Go.RowKit

def sameBA (a b : ByteArray) : Bool := decide (a.data.toList = b.data.toList)
/-- What the law asks. -/
def mpB (p i : ByteArray) : Bool :=
  if (matchR p i ⟨#[]⟩).2 ≠ 0 then decide ((matchR p i ⟨#[]⟩).2 = 8) && !sameBA p i
  else if openB p = false then sameBA (matchR p i ⟨#[]⟩).1 ⟨#[]⟩ && sameBA p i
  else decide ((putR p (matchR p i ⟨#[]⟩).1).2 = 0) && (sameBA (putR p (matchR p i ⟨#[]⟩).1).1 i && (decide ((matchR p i (matchR p i ⟨#[]⟩).1).2 = 0) && (sameBA (matchR p i (matchR p i ⟨#[]⟩).1).1 (matchR p i ⟨#[]⟩).1 &&
    (decide ((allR [p, p] [i, i] (listOf p)).2 = 0) && sameBA (allR [p, p] [i, i] (listOf p)).1 (listOf i)))))
set_option maxRecDepth 1000000 in
theorem mp_all : ((List.range 4).all fun n => (List.range 3).all fun k => (List.range 4).all fun n' => (List.range 3).all fun k' => mpB (kindK n k) (kindK n' k')) = true := by decide +kernel
theorem mp_at {n k n' k' : Nat} (h1 : n < 4) (h2 : k < 3) (h3 : n' < 4) (h4 : k' < 3) : mpB (kindK n k) (kindK n' k') = true := by
  have := mp_all
  simp only [List.all_eq_true, List.mem_range] at this
  exact this n h1 k h2 n' h3 k' h4

end Go.Proofs.YtoejhgbndehaiaaDoor
