/- How Go's slices and structs stand in memory: a relation between cells and plain Lean data; kept by whatever leaves the old blocks alone. No program is named here. -/
import Derived.WalkKit
import Derived.Deep.Slices
import Derived.Deep.Draws
namespace Go.Proofs.Ytamkgphamffdcaa
open Go.RowKit

/-- Below block B, w' reads as w does. -/
def Keeps (B : Nat) (w w' : World) : Prop := ∀ p : Addr, p.block < B → w'.cell? p = w.cell? p

theorem Keeps.refl (B : Nat) (w : World) : Keeps B w w := fun _ _ => rfl
theorem Keeps.trans {B : Nat} {a b c : World} (h : Keeps B a b) (k : Keeps B b c) : Keeps B a c := fun p hp => (k p hp).trans (h p hp)
theorem Keeps.mono {B B' : Nat} {a b : World} (h : Keeps B a b) (hB : B' ≤ B) : Keeps B' a b := fun p hp => h p (Nat.lt_of_lt_of_le hp hB)
theorem Keeps.of_below {B : Nat} {a b : World} (h : Below B a b) : Keeps B a b := fun _ hp => h.cell hp
theorem Keeps.drew {B : Nat} {a b : World} (h : Keeps B a b) : Keeps B a b.drew := h
theorem Keeps.drewN {B : Nat} {a b : World} (h : Keeps B a b) (n : Nat) : Keeps B a (b.drewN n) := h
theorem Keeps.alloc {B : Nat} {a b : World} (h : Keeps B a b) (hB : B ≤ b.heap.size) (o : Obj) : Keeps B a (b.alloc o) :=
  h.trans fun p hp => World.cell?_alloc_lt b o p (by omega)
theorem Keeps.setCell {B : Nat} {a b : World} (h : Keeps B a b) {q : Addr} (hq : B ≤ q.block) (u : Value) : Keeps B a (b.setCell q u) :=
  h.trans fun p hp => World.cell?_setCell_other b q p u (fun e => by subst e; omega)

/-- What cells stand for a thing, in a world, all that they lead to lying below a block. -/
abbrev CR (α : Type) := World → Nat → List Value → α → Prop

/-- It is kept where old blocks read as they did. -/
def Stays {α : Type} (R : CR α) : Prop := ∀ {w w' : World} {B B' : Nat} {cs : List Value} {x : α}, R w B cs x → B ≤ B' → Keeps B w w' → R w' B' cs x

/-- A slice value and the list that it stands for: 'sz' cells an element, 'by_' bytes an element. -/
def SliceOf {α : Type} (R : CR α) (sz by_ : Nat) (w : World) (B : Nat) (v : Value) (l : List α) : Prop :=
  ∃ A cap, v = .slice A l.length cap ∧ l.length ≤ cap ∧ cap ≤ maxLen ∧ l.length * by_ ≤ 140737488355328 ∧
    (0 < l.length → ∃ b off, A = some ⟨b, off, none⟩ ∧ b < B ∧ ∀ i x, l[i]? = some x → ∃ cs : List Value, cs.length = sz ∧ R w B cs x ∧ ∀ j u, cs[j]? = some u → w.cell? ⟨b, off + i * sz + j, none⟩ = some u)

section
variable {α : Type} {R : CR α} {sz by_ B B' : Nat} {w w' : World} {v : Value} {l : List α}

theorem SliceOf.stays (hR : Stays R) (h : SliceOf R sz by_ w B v l) (hB : B ≤ B') (hk : Keeps B w w') : SliceOf R sz by_ w' B' v l := by
  obtain ⟨A, cap, rfl, h1, h2, h3, h4⟩ := h
  refine ⟨A, cap, rfl, h1, h2, h3, fun hl => ?_⟩
  obtain ⟨b, off, hA, hb, hx⟩ := h4 hl
  refine ⟨b, off, hA, by omega, fun i x hi => ?_⟩
  obtain ⟨cs, hc, hr, hcell⟩ := hx i x hi
  exact ⟨cs, hc, hR hr hB hk, fun j u hj => (hk _ hb).trans (hcell j u hj)⟩

theorem SliceOf.nil_ : SliceOf R sz by_ w B (.slice none 0 0) ([] : List α) := ⟨none, 0, rfl, Nat.le_refl _, Nat.zero_le _, by simp, fun h => absurd h (by simp)⟩

/-- The one element at a place. -/
theorem SliceOf.at_ {k : Nat} (h : SliceOf R sz by_ w B v l) (hk : k < l.length) : ∃ b off cap cs, v = .slice (some ⟨b, off, none⟩) l.length cap ∧ b < B ∧ cs.length = sz ∧ R w B cs l[k] ∧ ∀ j u, cs[j]? = some u → w.cell? ⟨b, off + k * sz + j, none⟩ = some u := by
  obtain ⟨A, cap, rfl, h1, h2, h3, h4⟩ := h
  obtain ⟨b, off, rfl, hb, hx⟩ := h4 (by omega)
  obtain ⟨cs, hc, hr, hcell⟩ := hx k _ (List.getElem?_eq_getElem hk)
  exact ⟨b, off, cap, cs, rfl, hb, hc, hr, hcell⟩
end

/-- A string in one cell. -/
def StrR : CR ByteArray := fun _ _ cs s => cs = [.string s] ∧ s.size ≤ 140737488355328
theorem StrR.stays : Stays StrR := fun h _ _ => h

end Go.Proofs.Ytamkgphamffdcaa
