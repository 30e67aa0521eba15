/- A copy of a face: face.Copy. -/
import Derived.Test.YtafhepilcmimlaaDoorClone
import Derived.Test.YtafhepilcmimlaaDoorFaceRef
import Derived.Test.YtafhepilcmimlaaDoorBase
namespace Go.Proofs.YtafhepilcmimlaaDoor
open Go.RowKit Go.Shelf

theorem owns_heap {w w' : World} {base : Nat} {e : TypeId} {sz : Nat} {v : Value} {n : Nat} {xs : List Value} (h : w.ownsRow base e sz v n xs) (hh : ∀ g, v.ownBlock = some g → w'.heap[g]? = w.heap[g]?) : w'.ownsRow base e sz v n xs := by
  obtain ⟨h1, h2⟩ := h
  refine ⟨h1, ?_⟩
  rcases h2 with h2 | ⟨g, cap, cur, rfl, hg, hc, h3⟩
  · exact .inl h2
  · exact .inr ⟨g, cap, cur, rfl, hg, (hh g rfl).trans hc, h3⟩

theorem keeps_heap {F : Foot} {w w' : World} (h : ∀ k, F k → w'.heap[k]? = w.heap[k]?) : Keeps F w w' := fun _ hp => World.cell?_of_block (h _ hp)

theorem owns_form {w : World} {base : Nat} {e : TypeId} {sz : Nat} {v : Value} {n : Nat} {xs : List Value} (h : w.ownsRow base e sz v n xs) : ∃ A c, v = .slice A n c := by
  rcases h.2 with ⟨rfl, rfl⟩ | ⟨g, cap, cur, rfl, _⟩
  · exact ⟨_, _, rfl⟩
  · exact ⟨_, _, rfl⟩

end Go.Proofs.YtafhepilcmimlaaDoor
