/- How Go's slices and structs stand in memory: a relation between cells and plain Lean data, over the blocks that they occupy; kept by whatever leaves those blocks alone. No program is named here. -/
import Derived.WalkKit
import Derived.WalkSpells
import Derived.WalkLawsBesides
import Derived.Deep.Slices
import Derived.Deep.Draws
import Derived.Deep.LoopGhost
import Derived.Deep.DeepMust
import Derived.Deep.DeepFit
import Derived.Lib.Hide
import Derived.Shelf.Abstract
namespace Go.Proofs.Ytejiaimcgmpliaa
open Go.RowKit

theorem ret_bool {a b : Bool} (h : a = b) : Ending.returned (.bool a) = .returned (.bool b) := by rw [h]
theorem ret_int {k : IntKind} {a b : Int} (h : a = b) : Ending.returned (.int k a) = .returned (.int k b) := by rw [h]
theorem ret_str {a b : ByteArray} (h : a = b) : Ending.returned (.string a) = .returned (.string b) := by rw [h]

/-- Some blocks. -/
abbrev Foot := Nat → Prop
/-- All blocks below a number. -/
def old (n : Nat) : Foot := fun k => k < n
/-- The blocks from one number on, below another. -/
def fresh (n m : Nat) : Foot := fun k => n ≤ k ∧ k < m

/-- On these blocks w' reads as w does. -/
def Keeps (F : Foot) (w w' : World) : Prop := ∀ p : Addr, F p.block → w'.cell? p = w.cell? p

theorem Keeps.refl (F : Foot) (w : World) : Keeps F w w := fun _ _ => rfl
theorem Keeps.trans {F : Foot} {a b c : World} (h : Keeps F a b) (k : Keeps F b c) : Keeps F a c := fun p hp => (k p hp).trans (h p hp)
theorem Keeps.mono {F F' : Foot} {a b : World} (h : Keeps F a b) (hF : ∀ k, F' k → F k) : Keeps F' a b := fun p hp => h p (hF _ hp)
theorem Keeps.of_below {F : Foot} {B : Nat} {a b : World} (h : Below B a b) (hF : ∀ k, F k → k < B) : Keeps F a b := fun _ hp => h.cell (hF _ hp)
theorem Keeps.drew {F : Foot} {a b : World} (h : Keeps F a b) : Keeps F a b.drew := h
theorem Keeps.drewN {F : Foot} {a b : World} (h : Keeps F a b) (n : Nat) : Keeps F a (b.drewN n) := h
theorem Keeps.alloc {F : Foot} {a b : World} (h : Keeps F a b) (hF : ∀ k, F k → k < b.heap.size) (o : Obj) : Keeps F a (b.alloc o) :=
  h.trans fun p hp => World.cell?_alloc_lt b o p (hF _ hp)
theorem Keeps.setCell {F : Foot} {a b : World} (h : Keeps F a b) {q : Addr} (hq : ¬ F q.block) (u : Value) : Keeps F a (b.setCell q u) :=
  h.trans fun p hp => World.cell?_setCell_other b q p u (fun e => by subst e; exact hq hp)
theorem Keeps.grown {F : Foot} {a b c : World} {row : Option Nat} (h : Keeps F a b) (hg : b.grownBy c row) (hF : ∀ k, F k → k < b.heap.size ∧ some k ≠ row) : Keeps F a c :=
  h.trans fun p hp => World.cell?_of_block (hg.block p.block (hF _ hp).1 (hF _ hp).2)

/-- What cells stand for a thing, in a world, all that they lead to lying in some blocks. -/
abbrev CR (α : Type) := World → Foot → List Value → α → Prop

/-- It is kept where those blocks read as they did. -/
def Stays {α : Type} (R : CR α) : Prop := ∀ (w w' : World) (F F' : Foot) (cs : List Value) (x : α), R w F cs x → (∀ k, F k → F' k) → Keeps F w w' → R w' F' cs x

/-- A slice value and the list that it stands for: 'sz' cells an element, 'by_' bytes an element. -/
def SliceOf {α : Type} (R : CR α) (sz by_ : Nat) (w : World) (F : Foot) (v : Value) (l : List α) : Prop :=
  ∃ A cap, v = .slice A l.length cap ∧ l.length ≤ cap ∧ cap ≤ maxLen ∧ l.length * by_ ≤ 140737488355328 ∧ l.length ≤ 140737488355328 ∧
    (0 < l.length → ∃ b off, A = some ⟨b, off, none⟩ ∧ F b ∧ ∀ i x, l[i]? = some x → ∃ cs : List Value, cs.length = sz ∧ R w F cs x ∧ ∀ j u, cs[j]? = some u → w.cell? ⟨b, off + i * sz + j, none⟩ = some u)

section
variable {α : Type} {R : CR α} {sz by_ : Nat} {F F' : Foot} {w w' : World} {v : Value} {l : List α}

theorem SliceOf.stays (hR : Stays R) (h : SliceOf R sz by_ w F v l) (hF : ∀ k, F k → F' k) (hk : Keeps F w w') : SliceOf R sz by_ w' F' v l := by
  obtain ⟨A, cap, rfl, h1, h2, h3, h3', h4⟩ := h
  refine ⟨A, cap, rfl, h1, h2, h3, h3', fun hl => ?_⟩
  obtain ⟨b, off, hA, hb, hx⟩ := h4 hl
  refine ⟨b, off, hA, hF _ hb, fun i x hi => ?_⟩
  obtain ⟨cs, hc, hr, hcell⟩ := hx i x hi
  exact ⟨cs, hc, hR _ _ _ _ _ _ hr hF hk, fun j u hj => (hk _ hb).trans (hcell j u hj)⟩

theorem SliceOf.nil_ : SliceOf R sz by_ w F (.slice none 0 0) ([] : List α) := ⟨none, 0, rfl, Nat.le_refl _, Nat.zero_le _, by simp, by simp, fun h => absurd h (by simp)⟩

/-- The value's form. -/
theorem SliceOf.form (h : SliceOf R sz by_ w F v l) : ∃ A cap, v = .slice A l.length cap ∧ l.length ≤ cap ∧ cap ≤ maxLen ∧ l.length ≤ 140737488355328 ∧ l.length * by_ ≤ 140737488355328 := by
  obtain ⟨A, cap, h0, h1, h2, h3, h3', _⟩ := h
  exact ⟨A, cap, h0, h1, h2, h3', h3⟩

/-- The one element at a place, the slice's value being known. -/
theorem SliceOf.at_ {k n cap : Nat} {A : Option Addr} (h : SliceOf R sz by_ w F (.slice A n cap) l) (hk : k < l.length) :
    ∃ b off cs, A = some ⟨b, off, none⟩ ∧ F b ∧ cs.length = sz ∧ R w F cs l[k] ∧ ∀ j u, cs[j]? = some u → w.cell? ⟨b, off + k * sz + j, none⟩ = some u := by
  obtain ⟨A', cap', e, h1, h2, h3, h3', h4⟩ := h
  obtain ⟨b, off, rfl, hb, hx⟩ := h4 (by omega)
  obtain ⟨cs, hc, hr, hcell⟩ := hx k _ (List.getElem?_eq_getElem hk)
  injection e with e1 e2 e3
  exact ⟨b, off, cs, e1, hb, hc, hr, hcell⟩
end

/-- A string in one cell; a byte; an int. -/
def StrR : CR ByteArray := fun _ _ cs s => cs = [.string s] ∧ s.size ≤ 140737488355328
theorem StrR.stays : Stays StrR := fun _ _ _ _ _ _ h _ _ => h
def U8R : CR UInt8 := fun _ _ cs x => cs = [.int .u8 x.toNat]
theorem U8R.stays : Stays U8R := fun _ _ _ _ _ _ h _ _ => h

end Go.Proofs.Ytejiaimcgmpliaa
