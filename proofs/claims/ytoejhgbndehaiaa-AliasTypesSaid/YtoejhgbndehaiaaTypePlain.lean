/- A module's types, by their names; what is wrong with others. Plain facts. -/
import Derived.Test.YtoejhgbndehaiaaSigPlain
import Derived.Test.YtoejhgbndehaiaaInsert
import Derived.Test.YtoejhgbndehaiaaSolveAt
namespace Go.Proofs.Ytoejhgbndehaiaa
open Go.RowKit

/-- A type's name, as a type. -/
def nameTy (nm : ByteArray) : Ty := .mk 4 ⟨#[]⟩ nm []
/-- What is wrong with a type of a module; 0: nothing. -/
def typeCode (m : Module) (l : List Import) (k : Nat) : Int := match m.types[k]? with
  | some f => if (m.types.take k).any (fieldIs f.name) = true then 4 else (solveOf m l ⟨#[]⟩ (nameTy f.name)).2
  | none => 0
def typeKnown (m : Module) (l : List Import) (k : Nat) : List Known := match m.types[k]? with
  | some f => if typeCode m l k = 0 then [⟨f.name, (solveOf m l ⟨#[]⟩ (nameTy f.name)).1⟩] else []
  | none => []
def typeDiag (m : Module) (l : List Import) (k : Nat) : List Diag := match m.types[k]? with
  | some f => if typeCode m l k = 0 then [] else [⟨f.name, typeCode m l k⟩]
  | none => []
def goodTo (m : Module) (l : List Import) (n : Nat) : List Known := (List.range n).flatMap (typeKnown m l)
def badTo (m : Module) (l : List Import) (n : Nat) : List Diag := (List.range n).flatMap (typeDiag m l)
def typesOf (m : Module) (l : List Import) : List Known := sortBy Known.name (goodTo m l m.types.length)
def typesBad (m : Module) (l : List Import) : List Diag := badTo m l m.types.length

section
variable {m : Module} {l : List Import} {k n : Nat} {f : Field}
theorem range_snoc {α : Type} (g : Nat → List α) (n : Nat) : (List.range (n + 1)).flatMap g = (List.range n).flatMap g ++ g n := by
  rw [List.range_succ, List.flatMap_append]; simp
theorem range_le {α : Type} (g : Nat → List α) (h : ∀ i, (g i).length ≤ 1) : ∀ n, ((List.range n).flatMap g).length ≤ n
  | 0 => by simp
  | n + 1 => by
    rw [range_snoc, List.length_append]
    have := range_le g h n
    have := h n
    omega
theorem typeKnown_le (k : Nat) : (typeKnown m l k).length ≤ 1 := by
  unfold typeKnown
  split
  · split <;> simp
  · simp
theorem typeDiag_le (k : Nat) : (typeDiag m l k).length ≤ 1 := by
  unfold typeDiag
  split
  · split <;> simp
  · simp
theorem goodTo_le (n : Nat) : (goodTo m l n).length ≤ n := range_le _ typeKnown_le n
theorem badTo_le (n : Nat) : (badTo m l n).length ≤ n := range_le _ typeDiag_le n
theorem typeCode_seen (hf : m.types[k]? = some f) (h : (m.types.take k).any (fieldIs f.name) = true) : typeCode m l k = 4 := by
  unfold typeCode; rw [hf]; simp only; rw [if_pos h]
theorem typeCode_new (hf : m.types[k]? = some f) (h : (m.types.take k).any (fieldIs f.name) = false) : typeCode m l k = (solveOf m l ⟨#[]⟩ (nameTy f.name)).2 := by
  unfold typeCode; rw [hf]; simp only; rw [if_neg (by simp [h])]
theorem goodTo_bad (hf : m.types[k]? = some f) (h : typeCode m l k ≠ 0) : goodTo m l (k + 1) = goodTo m l k := by
  unfold goodTo; rw [range_snoc]; unfold typeKnown; rw [hf]; simp [h]
theorem badTo_bad (hf : m.types[k]? = some f) (h : typeCode m l k ≠ 0) : badTo m l (k + 1) = badTo m l k ++ [⟨f.name, typeCode m l k⟩] := by
  unfold badTo; rw [range_snoc]; unfold typeDiag; rw [hf]; simp [h]
theorem goodTo_good (hf : m.types[k]? = some f) (h : typeCode m l k = 0) : goodTo m l (k + 1) = goodTo m l k ++ [⟨f.name, (solveOf m l ⟨#[]⟩ (nameTy f.name)).1⟩] := by
  unfold goodTo; rw [range_snoc]; unfold typeKnown; rw [hf]; simp [h]
theorem badTo_good (hf : m.types[k]? = some f) (h : typeCode m l k = 0) : badTo m l (k + 1) = badTo m l k := by
  unfold badTo; rw [range_snoc]; unfold typeDiag; rw [hf]; simp [h]
theorem goodTo_of (n : Nat) : ∀ x ∈ goodTo m l n, ∃ i f, i < n ∧ m.types[i]? = some f ∧ typeCode m l i = 0 ∧ x = ⟨f.name, (solveOf m l ⟨#[]⟩ (nameTy f.name)).1⟩ := by
  intro x hx
  unfold goodTo at hx
  obtain ⟨i, hi, hx⟩ := List.mem_flatMap.1 hx
  refine ⟨i, ?_⟩
  unfold typeKnown at hx
  split at hx
  · next f hf =>
    split at hx
    · next h0 => exact ⟨f, List.mem_range.1 hi, hf, h0, by simpa using hx⟩
    · simp at hx
  · simp at hx
theorem goodTo_apart : ∀ n, Apart_ Known.name (goodTo m l n)
  | 0 => List.Pairwise.nil
  | n + 1 => by
    have ih := goodTo_apart n
    cases hf : m.types[n]? with
    | none =>
      have : goodTo m l (n + 1) = goodTo m l n := by unfold goodTo; rw [range_snoc]; unfold typeKnown; rw [hf]; simp
      rw [this]; exact ih
    | some f =>
      by_cases h0 : typeCode m l n = 0
      · rw [goodTo_good hf h0]
        refine List.pairwise_append.2 ⟨ih, by simp, fun x hx y hy => ?_⟩
        obtain ⟨i, g, hi, hg, _, rfl⟩ := goodTo_of n x hx
        obtain rfl : y = _ := by simpa using hy
        intro he
        simp only at he
        have hs : (m.types.take n).any (fieldIs f.name) = true := by
          rw [List.any_eq_true]
          refine ⟨g, ?_, ?_⟩
          · exact List.mem_of_getElem? (i := i) (by rw [List.getElem?_take_of_lt hi]; exact hg)
          · unfold fieldIs eqB; simp [he]
        rw [typeCode_seen hf hs] at h0
        cases h0
      · rw [goodTo_bad hf h0]; exact ih
theorem fidx_seen (hk : k ≤ m.types.length) (p : Field → Bool) : decide (fidx p m.types < (k : Int)) = true → (∃ i f, i < k ∧ m.types[i]? = some f ∧ p f = true) ∨ fidx p m.types = -1 := by
  intro h
  unfold fidx at h ⊢
  cases hi : m.types.findIdx? p with
  | none => exact .inr rfl
  | some i =>
    rw [hi] at h
    obtain ⟨h1, h2, _⟩ := List.findIdx?_eq_some_iff_getElem.1 hi
    exact .inl ⟨i, _, by simpa using h, List.getElem?_eq_getElem h1, h2⟩
/-- Where a name stands first: ahead of a place, or there. -/
theorem fidx_lt (hf : m.types[k]? = some f) : decide (fidx (fieldIs f.name) m.types < (k : Int)) = (m.types.take k).any (fieldIs f.name) := by
  have hself : fieldIs f.name f = true := by unfold fieldIs eqB; simp
  have hk := (List.getElem?_eq_some_iff.1 hf).1
  unfold fidx
  cases hi : m.types.findIdx? (fieldIs f.name) with
  | none =>
    rw [List.findIdx?_eq_none_iff] at hi
    have := hi f (List.mem_of_getElem? hf)
    rw [hself] at this; cases this
  | some i =>
    obtain ⟨h1, h2, h3⟩ := List.findIdx?_eq_some_iff_getElem.1 hi
    rw [Bool.eq_iff_iff]
    simp only [decide_eq_true_eq, List.any_eq_true]
    constructor
    · intro h
      refine ⟨m.types[i], List.mem_of_getElem? (i := i) ?_, h2⟩
      rw [List.getElem?_take_of_lt (by omega)]
      exact List.getElem?_eq_getElem h1
    · rintro ⟨g, hg, hp⟩
      obtain ⟨j, hj, rfl⟩ := List.getElem_of_mem hg
      rw [List.length_take] at hj
      rw [List.getElem_take] at hp
      refine Classical.byContradiction fun hn => ?_
      exact h3 j (by omega) hp
theorem solve_code : ∀ (n : Nat) (v : ByteArray) (us : List ByteArray) (t : Ty), 0 ≤ (solveN m l n v us t).2 ∧ (solveN m l n v us t).2 ≤ 5
  | 0, _, _, _ => ⟨by unfold solveN; decide, by unfold solveN; decide⟩
  | n + 1, v, us, .mk k o nm args => by
    unfold solveN
    repeat' split
    all_goals first | (dsimp only; exact solve_code n _ _ _) | exact solve_code n _ _ _ | (constructor <;> (dsimp only; omega))
theorem typeCode_i64 (v : ByteArray) (t : Ty) : I64 (solveOf m l v t).2 := by
  have := solve_code (m := m) (l := l) 300 v [] t
  unfold solveOf I64; omega
theorem nameTy_fine (h : nameOk f.name = true) : tyErr 10 (nameTy f.name) = 0 := by
  unfold nameTy tyErr
  rw [if_neg (by decide), if_neg (by decide), if_neg (by simp), if_pos rfl, if_pos ⟨h, .inl rfl⟩]
theorem typeTxt_small (hs : SmallTexts l) (nm : ByteArray) : (solveOf m l ⟨#[]⟩ (nameTy nm)).1.size ≤ 600 := solve_small hs 300 _ _ _
end

end Go.Proofs.Ytoejhgbndehaiaa
