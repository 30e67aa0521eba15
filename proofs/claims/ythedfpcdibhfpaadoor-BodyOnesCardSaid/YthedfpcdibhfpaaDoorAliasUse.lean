/- What is wrong with what a module uses: alias.Uses, and the reference's UsesOf. -/
import Derived.Test.YthedfpcdibhfpaaDoorAliasFrom
import Derived.Deep.RegionWith
import Derived.Deep.DeepCutAuto
import Derived.Deep.QuietTactic
import Derived.BigQuiet
import Derived.WalkSmall
import Derived.Handy
namespace Go.Proofs.YthedfpcdibhfpaaDoor
open Go.RowKit Go.Shelf

/-- What is told of a module's use at a place. -/
def useDiag (m : Module) (l : List Import) (i : Nat) : List Diag :=
  match m.uses[i]? with
  | some s => if hasS (m.uses.take i) s then [⟨s, 4⟩] else if fromIs m l s then [] else [⟨s, 3⟩]
  | none => []
def usesTo (m : Module) (l : List Import) (n : Nat) : List Diag := (List.range n).flatMap (useDiag m l)
def usesOf (m : Module) (l : List Import) : List Diag := usesTo m l m.uses.length
theorem usesTo_succ (m : Module) (l : List Import) (n : Nat) : usesTo m l (n + 1) = usesTo m l n ++ useDiag m l n := by
  unfold usesTo
  rw [List.range_succ, List.flatMap_append]
  simp
theorem useDiag_le (m : Module) (l : List Import) (i : Nat) : (useDiag m l i).length ≤ 1 := by
  unfold useDiag
  split
  · split
    · simp
    · split <;> simp
  · simp
theorem usesTo_le (m : Module) (l : List Import) : ∀ n, (usesTo m l n).length ≤ n
  | 0 => by simp [usesTo]
  | n + 1 => by
    rw [usesTo_succ, List.length_append]
    have := usesTo_le m l n
    have := useDiag_le m l n
    omega
theorem SliceOf.take {α : Type} {R : CR α} {sz by_ : Nat} {F : Foot} {w : World} {A : Option Addr} {n cap : Nat} {l : List α} (h : SliceOf R sz by_ w F (.slice A n cap) l) {k : Nat} (hk : k ≤ l.length) : SliceOf R sz by_ w F (.slice A k cap) (l.take k) := by
  obtain ⟨A', cap', e, h1, h2, h3, h3', h4⟩ := h
  injection e with e1 e2 e3
  subst e1; subst e3
  have hl : (l.take k).length = k := by rw [List.length_take]; omega
  refine ⟨A, cap, by rw [hl], by omega, h2, ?_, by omega, fun h0 => ?_⟩
  · rw [hl]; exact Nat.le_trans (Nat.mul_le_mul_right _ hk) h3
  · obtain ⟨b, off, hA, hb, hx⟩ := h4 (by omega)
    refine ⟨b, off, hA, hb, fun i x hi => hx i x ?_⟩
    rw [List.getElem?_take] at hi
    split at hi
    · exact hi
    · cases hi
theorem diag_one {d : Diag} : ∀ u ∈ [Value.string d.where_, .int .i64 d.code], u.oneCell' = true := by
  intro u hu
  simp only [List.mem_cons, List.not_mem_nil, or_false] at hu
  rcases hu with rfl | rfl <;> rfl

end Go.Proofs.YthedfpcdibhfpaaDoor
