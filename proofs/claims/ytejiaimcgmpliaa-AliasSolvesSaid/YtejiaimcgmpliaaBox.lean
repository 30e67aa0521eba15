/- Blocks that are known whole, and how they are kept; lists carried to later worlds. No program is named here. -/
import Derived.Test.YtejiaimcgmpliaaOwn
import Derived.Handy
import Derived.WalkSmall
namespace Go.Proofs.Ytejiaimcgmpliaa
open Go.RowKit

theorem aside {p : Prop} (h : p) : Aside p := h

/-- Block n holds just these cells. -/
def Box (W : World) (n : Nat) (t : TypeId) (cs : Array Value) : Prop := W.heap[n]? = some (.cells cs t (0, 0))

section
variable {W W' : World} {n : Nat} {t : TypeId} {cs : Array Value}
theorem Box.lt (h : Box W n t cs) : n < W.heap.size := by
  unfold Box at h
  exact (Array.getElem?_eq_some_iff.1 h).1
theorem Box.made (W : World) (t : TypeId) (cs : Array Value) : Box (W.alloc (.cells cs t)) W.heap.size t cs := heap_alloc_new W _
theorem Box.at_ (h : Box W n t cs) (i : Nat) (v : Value) (hi : cs[i]? = some v) : W.cell? ⟨n, i, none⟩ = some v := by
  unfold Box at h
  simp [World.cell?, h, hi]
theorem Box.free (h : Box W n t cs) (i : Nat) : W.frozen? ⟨n, i, none⟩ = false := by
  unfold Box at h
  simp [World.frozen?, h]
theorem Box.of_heap (h : Box W n t cs) (he : W'.heap[n]? = W.heap[n]?) : Box W' n t cs := he.trans h
theorem Box.alloc (h : Box W n t cs) (o : Obj) : Box (W.alloc o) n t cs := (Below.heap_alloc W o n h.lt).trans h
theorem Box.drew (h : Box W n t cs) : Box W.drew n t cs := h
theorem Box.drewN (h : Box W n t cs) (k : Nat) : Box (W.drewN k) n t cs := h
theorem Box.far (h : Box W n t cs) {p : Addr} (hp : n ≠ p.block) (u : Value) : Box (W.setCell p u) n t cs := (Below.heap_setCell W p u n hp).trans h
theorem Box.put (h : Box W n t cs) (i : Nat) (u : Value) : Box (W.setCell ⟨n, i, none⟩ u) n t (cs.setIfInBounds i u) := by
  unfold Box at h ⊢
  simp [World.setCell, Array.getElem?_modify, h]
theorem Box.later {B : Nat} (h : Box W n t cs) (hb : Below B W W') (hn : n < B) : Box W' n t cs := (hb.block n hn).trans h
theorem Box.grown {row : Option Nat} (h : Box W n t cs) (hg : W.grownBy W' row) (hn : some n ≠ row) : Box W' n t cs := (hg.block n h.lt hn).trans h
end

section
variable {α : Type} {R : CR α} {sz by_ : Nat} {F : Foot} {w w' : World} {v : Value} {l : List α}
/-- A list that came in is there later too. -/
theorem SliceOf.up (h : SliceOf R sz by_ w F v l) (hR : Stays R) (hF : ∀ k, F k → k < w.heap.size) (hb : Below w.heap.size w w') : SliceOf R sz by_ w' F v l :=
  h.stays hR (fun _ h => h) (Keeps.of_below hb hF)
theorem foot_up (hF : ∀ k, F k → k < w.heap.size) {B : Nat} (hb : Below B w w') : ∀ k, F k → k < w'.heap.size := fun k hk => Nat.lt_of_lt_of_le (hF k hk) hb.size
end

theorem FaceR.form {w : World} {F : Foot} {cs : List Value} {a : Face} (h : FaceR w F cs a) : ∃ T1 e1 T2 e2, cs = [.slice T1 a.types.length e1, .slice T2 a.funcs.length e2] := by
  obtain ⟨tv, fv, rfl, h1, h2⟩ := h
  obtain ⟨T1, e1, rfl, _⟩ := h1.form
  obtain ⟨T2, e2, rfl, _⟩ := h2.form
  exact ⟨_, _, _, _, rfl⟩

end Go.Proofs.Ytejiaimcgmpliaa
