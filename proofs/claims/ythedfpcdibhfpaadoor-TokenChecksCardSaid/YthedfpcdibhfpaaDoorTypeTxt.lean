/- Types as texts: tree.named, tree.typeText; the reference's typeShown, dec. -/
import Derived.Test.YthedfpcdibhfpaaDoorTreeTxt
import Derived.Test.YthedfpcdibhfpaaDoorTreeChk
import Derived.Test.YthedfpcdibhfpaaDoorShelf
import Derived.Handy
import Derived.Laws.IdiomStrings
namespace Go.Proofs.YthedfpcdibhfpaaDoor
open Go.RowKit Go.Shelf

theorem emp_of {s : ByteArray} (h : s.size = 0) : s.toList.isEmpty = true := by rw [str_isEmpty]; simp [h]
theorem emp_not {s : ByteArray} (h : s.size ≠ 0) : s.toList.isEmpty = false := by rw [str_isEmpty]; simp [h]

/-- One element of a type's list. -/
theorem ty_arg {w : World} {F : Foot} {k : Int} {o nm : ByteArray} {a : Ty} {A : Option Addr} {n c : Nat} {cs : List Value} (hcs : cs = [.int .i64 k, .string o, .string nm, .slice A n c]) (h : TyR w F cs (.mk k o nm [a])) :
    ∃ b off ds, A = some ⟨b, off, none⟩ ∧ F b ∧ TyR w F ds a ∧ n = 1 ∧ 1 ≤ c ∧ ∀ j u, ds[j]? = some u → w.cell? ⟨b, off + j, none⟩ = some u := by
  subst hcs
  obtain ⟨m, h⟩ := h
  cases m with
  | zero => exact h.elim
  | succ m =>
    obtain ⟨av, he, _, _, _, hav⟩ := h
    simp only [List.cons.injEq, and_true] at he
    obtain ⟨_, _, _, rfl⟩ := he
    obtain ⟨A', c', he2, hc1, _⟩ := hav.form
    injection he2 with e1 e2 e3
    subst e1; subst e2; subst e3
    obtain ⟨b, off, ds, hA, hb, _, hr, hcell⟩ := hav.at_ (k := 0) (by simp [Ty.args])
    exact ⟨b, off, ds, hA, hb, ⟨m, hr⟩, rfl, hc1, fun j u hj => by have := hcell j u hj; simpa using this⟩

theorem dec_small {u : Nat} (h : u < 10) : decTxt u = ⟨#[UInt8.ofNat (48 + u)]⟩ := by
  refine ba_ext ?_
  unfold decTxt
  rw [ba_of, Lib.itoa_nonneg, Lib.decDigits_one h]
theorem dec_more {u : Nat} (h : ¬ u < 10) : decTxt u = decTxt (u / 10 : Nat) ++ decTxt (u % 10 : Nat) := by
  refine ba_ext ?_
  unfold decTxt
  rw [ba_app, ba_of, ba_of, ba_of, Lib.itoa_nonneg, Lib.itoa_nonneg, Lib.itoa_nonneg, Lib.decDigits_one (show u % 10 < 10 by omega)]
  conv => lhs; unfold Lib.decDigits
  rw [dif_neg h]
end Go.Proofs.YthedfpcdibhfpaaDoor
